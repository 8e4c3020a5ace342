import Derived.Test.YtlkmfhccpcncnaaDoorN6a
set_option linter.unusedVariables false
set_option linter.unusedSimpArgs false
set_option maxRecDepth 100000
namespace Go.Proofs.YtlkmfhccpcncnaaDoor
open Go.GB
/-! 32 nflog_Right  -/
noncomputable def nflog_Right (a0 : S23) : Option Int :=
  Option.bind (nflog_text a0.f0 64) fun (y2 : Bool) =>
  bif (!y2) then
  (some 204)
  else
  (Option.bind (nflog_text a0.f1 65536) fun (y5 : Bool) =>
    bif (!y5) then
    (some 40)
    else
    (bif ((decide (a0.f2 < 0)) || (decide (a0.f2 > 1125899906842624))) then
      (some 1)
      else
      (bif ((decide ((a0.f3.length : Int) > 500)) || (decide ((a0.f4.length : Int) > 500))) then
        (some 8)
        else
        (Option.bind (Option.bind (nflog_rising a0.f3) fun (y27 : Bool) =>
            bif (!y27) then
            (some true)
            else
            (Option.bind (nflog_rising a0.f4) fun (y30 : Bool) =>
              some (!y30))) fun (j22 : Bool) =>
          bif j22 then
          (some 41)
          else
          (some 0)))))
theorem nflog_Right_walk {a0 : S23} {A0_3 : Option Addr} {n0_3 : Nat} {A0_4 : Option Addr} {n0_4 : Nat} {I : Imm} {r : Int} (hG : Gl I)  (hf0_3 : RepS (Kd.sl kS79) I A0_3 n0_3 a0.f3) (hf0_4 : RepS (Kd.sl kS79) I A0_4 n0_4 a0.f4) (hr : nflog_Right a0 = some r) (L : Own) :
    CallsTo Tryd.prog 32 #[.agg #[.string a0.f0, .string a0.f1, .int .i64 a0.f2, .slice A0_3 a0.f3.length n0_3, .slice A0_4 a0.f4.length n0_4]] I L (fun v I' L' => v = .int .i64 r ∧ L = L') := by
  unfold nflog_Right at hr
  refine callsTo_body (N := 44) Tryd.func32 (by kernel_rfl) (by kernel_rfl) (by kernel_rfl) ?_
  refine gk_pick [0] (K' := [(0, .agg #[.string a0.f0, .string a0.f1, .int .i64 a0.f2, .slice A0_3 a0.f3.length n0_3, .slice A0_4 a0.f4.length n0_4])]) (by kernel_rfl) ?_
  refine gk_seq (by kernel_rfl) ?_
  refine gk_region (by kernel_rfl) ?_
  refine gl_box (T' := 24) (x := (.tmp 0)) (v := .agg #[.string a0.f0, .string a0.f1, .int .i64 a0.f2, .slice A0_3 a0.f3.length n0_3, .slice A0_4 a0.f4.length n0_4]) (cs := #[.string a0.f0, .string a0.f1, .int .i64 a0.f2, .slice A0_3 a0.f3.length n0_3, .slice A0_4 a0.f4.length n0_4]) (by kernel_rfl) (by kernel_rfl) (by kernel_rfl) (by kernel_rfl) (fun g1 => ?_)
  refine gl_pure 1 [1] (K' := [(1, .pointer (some ⟨g1, 0, none⟩))]) (by kernel_rfl) ?_
  refine gl_atE (by kernel_rfl) ?_
  refine ge_seq ?_
  refine gk_seq (by kernel_rfl) ?_
  refine gk_block (by kernel_rfl) ?_
  refine gk_seq (by kernel_rfl) ?_
  refine gk_region (by kernel_rfl) ?_
  refine gl_pure 1 [1, 4] (K' := [(1, .pointer (some ⟨g1, 0, none⟩)), (4, .pointer (some ⟨g1, 0, none⟩))]) (by kernel_rfl) ?_
  refine gl_loadB (T' := 9) (xp := (.tmp 4)) (v := .string a0.f0) (g := g1) (off := 0) (cs := #[.string a0.f0, .string a0.f1, .int .i64 a0.f2, .slice A0_3 a0.f3.length n0_3, .slice A0_4 a0.f4.length n0_4]) (e := 24) (fz := (0, 0)) (by kernel_rfl) (by kernel_rfl) (by kernel_rfl) List.mem_cons_self (by kernel_rfl) ?_
  obtain ⟨y2, hx3, hr⟩ := bind_some hr
  refine gl_callQ (by kernel_rfl) (nflog_text_walk (r := y2) hG hx3 _) ?_
  refine gl_pure 2 [1, 3] (K' := [(1, .pointer (some ⟨g1, 0, none⟩)), (3, .bool (!y2))]) (by kernel_rfl) ?_
  refine gl_atE (by kernel_rfl) ?_
  refine ge_seq ?_
  refine gk_cond (b := (!y2)) (by kernel_rfl) (by kernel_rfl) (fun hc4 => ?_) (fun hc4 => ?_)
  · have hr := cond_t hc4 hr
    refine gk_seq (by kernel_rfl) ?_
    refine gk_region (by kernel_rfl) ?_
    refine gl_pure 1 [2] (K' := [(2, .int .i64 204)]) (by kernel_rfl) ?_
    refine gl_atE (by kernel_rfl) ?_
    refine ge_seq ?_
    refine gk_reord (D := L) (Reord.skip (Reord.refl _)) ?_
    refine gk_ret (by kernel_rfl) ?_
    refine ge_block_ret ?_
    refine ge_seq_ret ?_
    obtain rfl := some_inj hr
    exact ge_result trivial (ResOk.tmp (by kernel_rfl) ResOk.nil) (Imm.refl _) ⟨rfl, rfl⟩
  · have hr := cond_f hc4 hr
    refine gk_seq (by kernel_rfl) ?_
    refine gk_region (by kernel_rfl) ?_
    refine gl_pure 1 [1, 9] (K' := [(1, .pointer (some ⟨g1, 0, none⟩)), (9, .pointer (some ⟨g1, 1, none⟩))]) (by kernel_rfl) ?_
    refine gl_loadB (T' := 9) (xp := (.tmp 9)) (v := .string a0.f1) (g := g1) (off := 1) (cs := #[.string a0.f0, .string a0.f1, .int .i64 a0.f2, .slice A0_3 a0.f3.length n0_3, .slice A0_4 a0.f4.length n0_4]) (e := 24) (fz := (0, 0)) (by kernel_rfl) (by kernel_rfl) (by kernel_rfl) List.mem_cons_self (by kernel_rfl) ?_
    obtain ⟨y5, hx6, hr⟩ := bind_some hr
    refine gl_callQ (by kernel_rfl) (nflog_text_walk (r := y5) hG hx6 _) ?_
    refine gl_pure 2 [1, 8] (K' := [(1, .pointer (some ⟨g1, 0, none⟩)), (8, .bool (!y5))]) (by kernel_rfl) ?_
    refine gl_atE (by kernel_rfl) ?_
    refine ge_seq ?_
    refine gk_cond (b := (!y5)) (by kernel_rfl) (by kernel_rfl) (fun hc7 => ?_) (fun hc7 => ?_)
    · have hr := cond_t hc7 hr
      refine gk_seq (by kernel_rfl) ?_
      refine gk_region (by kernel_rfl) ?_
      refine gl_pure 1 [2] (K' := [(2, .int .i64 40)]) (by kernel_rfl) ?_
      refine gl_atE (by kernel_rfl) ?_
      refine ge_seq ?_
      refine gk_reord (D := L) (Reord.skip (Reord.refl _)) ?_
      refine gk_ret (by kernel_rfl) ?_
      refine ge_block_ret ?_
      refine ge_seq_ret ?_
      obtain rfl := some_inj hr
      exact ge_result trivial (ResOk.tmp (by kernel_rfl) ResOk.nil) (Imm.refl _) ⟨rfl, rfl⟩
    · have hr := cond_f hc7 hr
      refine gk_seq (by kernel_rfl) ?_
      obtain ⟨b10, hb11⟩ : ∃ z, z = ((decide (a0.f2 < 0)) || (decide (a0.f2 > 1125899906842624))) := ⟨_, rfl⟩
      refine gk_join (fun t I' L' => I ≤ I' ∧ (g1, .cells #[.string a0.f0, .string a0.f1, .int .i64 a0.f2, .slice A0_3 a0.f3.length n0_3, .slice A0_4 a0.f4.length n0_4] 24) :: L = L' ∧ Knows 44 [(1, .pointer (some ⟨g1, 0, none⟩)), (13, .bool b10)] t) ?_ ?_
      · refine gk_region (by kernel_rfl) ?_
        refine gl_pure 1 [1, 14] (K' := [(1, .pointer (some ⟨g1, 0, none⟩)), (14, .pointer (some ⟨g1, 2, none⟩))]) (by kernel_rfl) ?_
        refine gl_loadB (T' := 2) (xp := (.tmp 14)) (v := .int .i64 a0.f2) (g := g1) (off := 2) (cs := #[.string a0.f0, .string a0.f1, .int .i64 a0.f2, .slice A0_3 a0.f3.length n0_3, .slice A0_4 a0.f4.length n0_4]) (e := 24) (fz := (0, 0)) (by kernel_rfl) (by kernel_rfl) (by kernel_rfl) List.mem_cons_self (by kernel_rfl) ?_
        refine gl_pure 2 [1, 17] (K' := [(1, .pointer (some ⟨g1, 0, none⟩)), (17, .bool (decide (a0.f2 < 0)))]) (by kernel_rfl) ?_
        refine gl_case 17 (b := (decide (a0.f2 < 0))) (by kernel_rfl) (fun hc13 => ?_) (fun hc13 => ?_)
        · refine gl_pure 5 [1, 13] (K' := [(1, .pointer (some ⟨g1, 0, none⟩)), (13, .bool true)]) (by kernel_rfl) ?_
          refine gl_atE (by kernel_rfl) ?_
          exact ge_mid fun t ht => ⟨(Imm.refl _), rfl, by rw [(show b10 = true from hb11.trans (by rw [hc13]; try rfl))]; exact ht.pick (l := [1, 13]) (by kernel_rfl)⟩
        · refine gl_pure 1 [1, 17, 18] (K' := [(1, .pointer (some ⟨g1, 0, none⟩)), (17, .bool false), (18, .pointer (some ⟨g1, 2, none⟩))]) (by kernel_rfl) ?_
          refine gl_loadB (T' := 2) (xp := (.tmp 18)) (v := .int .i64 a0.f2) (g := g1) (off := 2) (cs := #[.string a0.f0, .string a0.f1, .int .i64 a0.f2, .slice A0_3 a0.f3.length n0_3, .slice A0_4 a0.f4.length n0_4]) (e := 24) (fz := (0, 0)) (by kernel_rfl) (by kernel_rfl) (by kernel_rfl) List.mem_cons_self (by kernel_rfl) ?_
          refine gl_pure 3 [1, 13] (K' := [(1, .pointer (some ⟨g1, 0, none⟩)), (13, .bool (decide (a0.f2 > 1125899906842624)))]) (by kernel_rfl) ?_
          refine gl_atE (by kernel_rfl) ?_
          exact ge_mid fun t ht => ⟨(Imm.refl _), rfl, by rw [(show b10 = (decide (a0.f2 > 1125899906842624)) from hb11.trans (by rw [hc13]; try rfl))]; exact ht.pick (l := [1, 13]) (by kernel_rfl)⟩
      · rintro t I12 L' ⟨hI8, rfl, hK9⟩
        subst hb11
        refine ge_at hK9 ?_
        refine ge_seq ?_
        refine gk_cond (b := ((decide (a0.f2 < 0)) || (decide (a0.f2 > 1125899906842624)))) (by kernel_rfl) (by kernel_rfl) (fun hc14 => ?_) (fun hc14 => ?_)
        · have hr := cond_t hc14 hr
          refine gk_seq (by kernel_rfl) ?_
          refine gk_region (by kernel_rfl) ?_
          refine gl_pure 1 [2] (K' := [(2, .int .i64 1)]) (by kernel_rfl) ?_
          refine gl_atE (by kernel_rfl) ?_
          refine ge_seq ?_
          refine gk_reord (D := L) (Reord.skip (Reord.refl _)) ?_
          refine gk_ret (by kernel_rfl) ?_
          refine ge_block_ret ?_
          refine ge_seq_ret ?_
          obtain rfl := some_inj hr
          exact ge_result trivial (ResOk.tmp (by kernel_rfl) ResOk.nil) hI8 ⟨rfl, rfl⟩
        · have hr := cond_f hc14 hr
          refine gk_seq (by kernel_rfl) ?_
          obtain ⟨b17, hb18⟩ : ∃ z, z = ((decide ((a0.f3.length : Int) > 500)) || (decide ((a0.f4.length : Int) > 500))) := ⟨_, rfl⟩
          refine gk_join (fun t I' L' => I12 ≤ I' ∧ (g1, .cells #[.string a0.f0, .string a0.f1, .int .i64 a0.f2, .slice A0_3 a0.f3.length n0_3, .slice A0_4 a0.f4.length n0_4] 24) :: L = L' ∧ Knows 44 [(1, .pointer (some ⟨g1, 0, none⟩)), (22, .bool b17)] t) ?_ ?_
          · refine gk_region (by kernel_rfl) ?_
            refine gl_pure 1 [1, 23] (K' := [(1, .pointer (some ⟨g1, 0, none⟩)), (23, .pointer (some ⟨g1, 3, none⟩))]) (by kernel_rfl) ?_
            refine gl_loadB (T' := 22) (xp := (.tmp 23)) (v := .slice A0_3 a0.f3.length n0_3) (g := g1) (off := 3) (cs := #[.string a0.f0, .string a0.f1, .int .i64 a0.f2, .slice A0_3 a0.f3.length n0_3, .slice A0_4 a0.f4.length n0_4]) (e := 24) (fz := (0, 0)) (by kernel_rfl) (by kernel_rfl) (by kernel_rfl) List.mem_cons_self (by kernel_rfl) ?_
            refine gl_pure 3 [1, 27] (K' := [(1, .pointer (some ⟨g1, 0, none⟩)), (27, .bool (decide ((a0.f3.length : Int) > 500)))]) (by kernel_rfl) ?_
            refine gl_case 27 (b := (decide ((a0.f3.length : Int) > 500))) (by kernel_rfl) (fun hc20 => ?_) (fun hc20 => ?_)
            · refine gl_pure 6 [1, 22] (K' := [(1, .pointer (some ⟨g1, 0, none⟩)), (22, .bool true)]) (by kernel_rfl) ?_
              refine gl_atE (by kernel_rfl) ?_
              exact ge_mid fun t ht => ⟨(Imm.refl _), rfl, by rw [(show b17 = true from hb18.trans (by rw [hc20]; try rfl))]; exact ht.pick (l := [1, 22]) (by kernel_rfl)⟩
            · refine gl_pure 1 [1, 27, 28] (K' := [(1, .pointer (some ⟨g1, 0, none⟩)), (27, .bool false), (28, .pointer (some ⟨g1, 4, none⟩))]) (by kernel_rfl) ?_
              refine gl_loadB (T' := 22) (xp := (.tmp 28)) (v := .slice A0_4 a0.f4.length n0_4) (g := g1) (off := 4) (cs := #[.string a0.f0, .string a0.f1, .int .i64 a0.f2, .slice A0_3 a0.f3.length n0_3, .slice A0_4 a0.f4.length n0_4]) (e := 24) (fz := (0, 0)) (by kernel_rfl) (by kernel_rfl) (by kernel_rfl) List.mem_cons_self (by kernel_rfl) ?_
              refine gl_pure 4 [1, 22] (K' := [(1, .pointer (some ⟨g1, 0, none⟩)), (22, .bool (decide ((a0.f4.length : Int) > 500)))]) (by kernel_rfl) ?_
              refine gl_atE (by kernel_rfl) ?_
              exact ge_mid fun t ht => ⟨(Imm.refl _), rfl, by rw [(show b17 = (decide ((a0.f4.length : Int) > 500)) from hb18.trans (by rw [hc20]; try rfl))]; exact ht.pick (l := [1, 22]) (by kernel_rfl)⟩
          · rintro t I19 L' ⟨hI15, rfl, hK16⟩
            subst hb18
            refine ge_at hK16 ?_
            refine ge_seq ?_
            refine gk_cond (b := ((decide ((a0.f3.length : Int) > 500)) || (decide ((a0.f4.length : Int) > 500)))) (by kernel_rfl) (by kernel_rfl) (fun hc21 => ?_) (fun hc21 => ?_)
            · have hr := cond_t hc21 hr
              refine gk_seq (by kernel_rfl) ?_
              refine gk_region (by kernel_rfl) ?_
              refine gl_pure 1 [2] (K' := [(2, .int .i64 8)]) (by kernel_rfl) ?_
              refine gl_atE (by kernel_rfl) ?_
              refine ge_seq ?_
              refine gk_reord (D := L) (Reord.skip (Reord.refl _)) ?_
              refine gk_ret (by kernel_rfl) ?_
              refine ge_block_ret ?_
              refine ge_seq_ret ?_
              obtain rfl := some_inj hr
              exact ge_result trivial (ResOk.tmp (by kernel_rfl) ResOk.nil) (Imm.trans hI8 hI15) ⟨rfl, rfl⟩
            · have hr := cond_f hc21 hr
              refine gk_seq (by kernel_rfl) ?_
              obtain ⟨j22, hj23, hr⟩ := bind_some hr
              refine gk_join (fun t I' L' => I19 ≤ I' ∧ L = L' ∧ Knows 44 [(33, .bool j22)] t) ?_ ?_
              · refine gk_region (by kernel_rfl) ?_
                refine gl_pure 1 [1, 34] (K' := [(1, .pointer (some ⟨g1, 0, none⟩)), (34, .pointer (some ⟨g1, 3, none⟩))]) (by kernel_rfl) ?_
                refine gl_loadB (T' := 22) (xp := (.tmp 34)) (v := .slice A0_3 a0.f3.length n0_3) (g := g1) (off := 3) (cs := #[.string a0.f0, .string a0.f1, .int .i64 a0.f2, .slice A0_3 a0.f3.length n0_3, .slice A0_4 a0.f4.length n0_4]) (e := 24) (fz := (0, 0)) (by kernel_rfl) (by kernel_rfl) (by kernel_rfl) List.mem_cons_self (by kernel_rfl) ?_
                obtain ⟨y27, hx28, hj23⟩ := bind_some hj23
                refine gl_callQ (by kernel_rfl) (nflog_rising_walk (r := y27) (hG.mono (Imm.trans hI8 hI15)) (hf0_3.mono (Imm.trans hI8 hI15)) hx28 _) ?_
                refine gl_pure 2 [1, 38] (K' := [(1, .pointer (some ⟨g1, 0, none⟩)), (38, .bool (!y27))]) (by kernel_rfl) ?_
                refine gl_case 38 (b := (!y27)) (by kernel_rfl) (fun hc29 => ?_) (fun hc29 => ?_)
                · have hj23 := cond_t hc29 hj23
                  refine gl_pure 6 [33] (K' := [(33, .bool true)]) (by kernel_rfl) ?_
                  refine gl_reord (D := L) (Reord.skip (Reord.refl _)) ?_
                  refine gl_atE (by kernel_rfl) ?_
                  obtain rfl := some_inj hj23
                  exact ge_mid fun t ht => ⟨(Imm.refl _), rfl, ht.pick (l := [33]) (by kernel_rfl)⟩
                · have hj23 := cond_f hc29 hj23
                  refine gl_pure 1 [38, 39] (K' := [(38, .bool false), (39, .pointer (some ⟨g1, 4, none⟩))]) (by kernel_rfl) ?_
                  refine gl_loadB (T' := 22) (xp := (.tmp 39)) (v := .slice A0_4 a0.f4.length n0_4) (g := g1) (off := 4) (cs := #[.string a0.f0, .string a0.f1, .int .i64 a0.f2, .slice A0_3 a0.f3.length n0_3, .slice A0_4 a0.f4.length n0_4]) (e := 24) (fz := (0, 0)) (by kernel_rfl) (by kernel_rfl) (by kernel_rfl) List.mem_cons_self (by kernel_rfl) ?_
                  obtain ⟨y30, hx31, hj23⟩ := bind_some hj23
                  refine gl_callQ (by kernel_rfl) (nflog_rising_walk (r := y30) (hG.mono (Imm.trans hI8 hI15)) (hf0_4.mono (Imm.trans hI8 hI15)) hx31 _) ?_
                  refine gl_pure 3 [33] (K' := [(33, .bool (!y30))]) (by kernel_rfl) ?_
                  refine gl_reord (D := L) (Reord.skip (Reord.refl _)) ?_
                  refine gl_atE (by kernel_rfl) ?_
                  obtain rfl := some_inj hj23
                  exact ge_mid fun t ht => ⟨(Imm.refl _), rfl, ht.pick (l := [33]) (by kernel_rfl)⟩
              · rintro t I26 L' ⟨hI24, rfl, hK25⟩
                refine ge_at hK25 ?_
                refine ge_seq ?_
                refine gk_cond (b := j22) (by kernel_rfl) (by kernel_rfl) (fun hc32 => ?_) (fun hc32 => ?_)
                · have hr := cond_t hc32 hr
                  refine gk_seq (by kernel_rfl) ?_
                  refine gk_region (by kernel_rfl) ?_
                  refine gl_pure 1 [2] (K' := [(2, .int .i64 41)]) (by kernel_rfl) ?_
                  refine gl_atE (by kernel_rfl) ?_
                  refine ge_seq ?_
                  refine gk_ret (by kernel_rfl) ?_
                  refine ge_block_ret ?_
                  refine ge_seq_ret ?_
                  obtain rfl := some_inj hr
                  exact ge_result trivial (ResOk.tmp (by kernel_rfl) ResOk.nil) (Imm.trans (Imm.trans hI8 hI15) hI24) ⟨rfl, rfl⟩
                · have hr := cond_f hc32 hr
                  refine gk_skip (by kernel_rfl) ?_
                  refine ge_block_normal ?_
                  refine ge_seq ?_
                  refine gk_seq (by kernel_rfl) ?_
                  refine gk_region (by kernel_rfl) ?_
                  refine gl_pure 1 [2] (K' := [(2, .int .i64 0)]) (by kernel_rfl) ?_
                  refine gl_atE (by kernel_rfl) ?_
                  refine ge_seq ?_
                  refine gk_ret (by kernel_rfl) ?_
                  obtain rfl := some_inj hr
                  exact ge_result trivial (ResOk.tmp (by kernel_rfl) ResOk.nil) (Imm.trans (Imm.trans hI8 hI15) hI24) ⟨rfl, rfl⟩
/-! 75 nflog_Within_1 ('imm', ('ptrR', 36)) -/
noncomputable def nflog_Within_1 (a0 : List S79) (a1 : List S79) : Option Bool :=
  Option.bind (labels_Compare a1 a0) fun (y1 : Int) =>
  some (y1 == 0)
theorem nflog_Within_1_walk {a0 : List S79} {A0_0 : Option Addr} {n0_0 : Nat} {a1 : List S79} {p1 : Addr} {A1_0 : Option Addr} {n1_0 : Nat} {I : Imm} {r : Bool}  (hf0_0 : RepS kS79 I A0_0 n0_0 a0) (hp1 : RunAt I p1 [.slice A1_0 a1.length n1_0]) (hf1_0 : RepS kS79 I A1_0 n1_0 a1) (hr : nflog_Within_1 a0 a1 = some r) (L : Own) :
    CallsTo Tryd.prog 75 #[.slice A0_0 a0.length n0_0, .pointer (some p1)] I L (fun v I' L' => v = .bool r ∧ L = L') := by
  unfold nflog_Within_1 at hr
  refine callsTo_body (N := 8) Tryd.func75 (by kernel_rfl) (by kernel_rfl) (by kernel_rfl) ?_
  refine gk_pick [0, 1] (K' := [(0, .slice A0_0 a0.length n0_0), (1, .pointer (some p1))]) (by kernel_rfl) ?_
  refine gk_seq (by kernel_rfl) ?_
  refine gk_region (by kernel_rfl) ?_
  refine gl_pure 1 [0, 1] (K' := [(0, .slice A0_0 a0.length n0_0), (1, .pointer (some p1))]) (by kernel_rfl) ?_
  refine gl_atE (by kernel_rfl) ?_
  refine ge_seq ?_
  refine gk_seq (by kernel_rfl) ?_
  refine gk_region (by kernel_rfl) ?_
  refine gl_load (T' := 36) (xp := (.tmp 1)) (p := p1) (c := .slice A1_0 a1.length n1_0) (n := 1) (by kernel_rfl) (by kernel_rfl) (by kernel_rfl) (by kernel_rfl) hp1 ?_
  refine gl_pure 1 [4, 5] (K' := [(4, .slice A1_0 a1.length n1_0), (5, .slice A0_0 a0.length n0_0)]) (by kernel_rfl) ?_
  obtain ⟨y1, hx2, hr⟩ := bind_some hr
  refine gl_callQ (by kernel_rfl) (labels_Compare_walk (r := y1) hf1_0 hf0_0 hx2 _) ?_
  refine gl_pure 2 [3] (K' := [(3, .bool (y1 == 0))]) (by kernel_rfl) ?_
  refine gl_atE (by kernel_rfl) ?_
  refine ge_seq ?_
  refine gk_ret (by kernel_rfl) ?_
  obtain rfl := some_inj hr
  exact ge_result trivial (ResOk.tmp (by kernel_rfl) ResOk.nil) (Imm.refl _) ⟨rfl, rfl⟩
theorem nflog_Within_1_impl122 {a1 : List S79} {p1 : Addr} {A1_0 : Option Addr} {n1_0 : Nat} {I : Imm} (hp1 : RunAt I p1 [.slice A1_0 a1.length n1_0]) (hf1_0 : RepS kS79 I A1_0 n1_0 a1) : Fn122 I (.func (.func 75) #[] #[.pointer (some p1)]) (fun x0 => nflog_Within_1 x0 a1) := ⟨fun I' hI x0 r hr A0_0 c0_0 h0_0 L => ⟨75, #[], #[.pointer (some p1)], rfl, ⟨_, Tryd.func75, by kernel_rfl, by kernel_rfl⟩, by
  simp only [List.append_toArray, List.nil_append, List.append_nil, Array.append_empty, Array.empty_append, List.push_append_toArray, List.cons_append]
  exact nflog_Within_1_walk  h0_0 (hp1.mono hI) (hf1_0.mono hI) hr L⟩⟩
/-! 34 nflog_Within  -/
noncomputable def nflog_Within_l17 (a0 : List (List S79)) (a1 : List (List S79)) : Int → Option ((Int) ⊕ ((Unit) ⊕ (Bool))) := fun s7 =>
  bif (decide (s7 < (a0.length : Int))) then
  (Option.bind (ix a0 s7) fun (x20 : List S79) =>
    Option.bind (slices_ContainsFunc a1 (fun x0 => nflog_Within_1 x0 x20)) fun (y32 : Bool) =>
    bif (!y32) then
    (some (Sum.inr (Sum.inr false)))
    else
    (some (Sum.inl (IntKind.wrap .i64 (s7 + 1)))))
  else
  (some (Sum.inr (Sum.inl ())))
noncomputable def nflog_Within (a0 : List (List S79)) (a1 : List (List S79)) : Option Bool :=
  Option.bind (loopO (nflog_Within_l17 a0 a1) 0) fun (r5 : (Unit) ⊕ (Bool)) =>
  match r5 with
  | Sum.inl r13 => some true
  | Sum.inr v35 => some v35
theorem nflog_Within_walk {a0 : List (List S79)} {A0_0 : Option Addr} {n0_0 : Nat} {a1 : List (List S79)} {A1_0 : Option Addr} {n1_0 : Nat} {I : Imm} {r : Bool}  (hf0_0 : RepS (Kd.sl kS79) I A0_0 n0_0 a0)  (hf1_0 : RepS (Kd.sl kS79) I A1_0 n1_0 a1) (hr : nflog_Within a0 a1 = some r) (L : Own) :
    CallsTo Tryd.prog 34 #[.slice A0_0 a0.length n0_0, .slice A1_0 a1.length n1_0] I L (fun v I' L' => v = .bool r ∧ L = L') := by
  unfold nflog_Within at hr
  refine callsTo_body (N := 18) Tryd.func34 (by kernel_rfl) (by kernel_rfl) (by kernel_rfl) ?_
  refine gk_pick [0, 1] (K' := [(0, .slice A0_0 a0.length n0_0), (1, .slice A1_0 a1.length n1_0)]) (by kernel_rfl) ?_
  refine gk_seq (by kernel_rfl) ?_
  refine gk_region (by kernel_rfl) ?_
  refine gl_pure 1 [0, 1] (K' := [(0, .slice A0_0 a0.length n0_0), (1, .slice A1_0 a1.length n1_0)]) (by kernel_rfl) ?_
  refine gl_atE (by kernel_rfl) ?_
  refine ge_seq ?_
  refine gk_seq (by kernel_rfl) ?_
  refine gk_seq (by kernel_rfl) ?_
  refine gk_region (by kernel_rfl) ?_
  refine gl_pure 3 [1, 7, 8, 9] (K' := [(1, .slice A1_0 a1.length n1_0), (7, .slice A0_0 a0.length n0_0), (8, .int .i64 (a0.length : Int)), (9, .int .i64 0)]) (by kernel_rfl) ?_
  refine gl_atE (by kernel_rfl) ?_
  refine ge_seq ?_
  obtain ⟨r5, hl6, hr⟩ := bind_some hr
  refine gk_join (fun t I' L' => ∃ r13, r5 = Sum.inl r13 ∧ I ≤ I' ∧ L = L' ∧ Knows 18 [] t) ?_ ?_
  · refine gk_block (by kernel_rfl) ?_
    refine gk_pick [1, 7, 8, 9] (K' := [(1, .slice A1_0 a1.length n1_0), (7, .slice A0_0 a0.length n0_0), (8, .int .i64 (a0.length : Int)), (9, .int .i64 0)]) (by kernel_rfl) ?_
    intro t hK
    refine gc_loop (nflog_Within_l17 a0 a1) (fun s7 t I' L' => I ≤ I' ∧ L = L' ∧ Knows 18 [(1, .slice A1_0 a1.length n1_0), (7, .slice A0_0 a0.length n0_0), (8, .int .i64 (a0.length : Int)), (9, .int .i64 s7)] t) (by kernel_rfl) ?_ hl6 ⟨(Imm.refl _), rfl, hK⟩
    rintro s7 o8 t I12 L' hb9 ⟨hI10, rfl, hK11⟩
    unfold nflog_Within_l17 at hb9
    refine gk_at hK11 ?_
    refine gk_seq (by kernel_rfl) ?_
    refine gk_region (by kernel_rfl) ?_
    refine gl_pure 1 [1, 7, 8, 9, 10] (K' := [(1, .slice A1_0 a1.length n1_0), (7, .slice A0_0 a0.length n0_0), (8, .int .i64 (a0.length : Int)), (9, .int .i64 s7), (10, .bool (decide (s7 < (a0.length : Int))))]) (by kernel_rfl) ?_
    refine gl_atE (by kernel_rfl) ?_
    refine ge_seq ?_
    refine gk_seq (by kernel_rfl) ?_
    refine gk_cond (b := (decide (s7 < (a0.length : Int)))) (by kernel_rfl) (by kernel_rfl) (fun hc19 => ?_) (fun hc19 => ?_)
    · have hb9 := cond_t hc19 hb9
      refine gk_skip (by kernel_rfl) ?_
      refine ge_seq ?_
      refine gk_seq (by kernel_rfl) ?_
      refine gk_block (by kernel_rfl) ?_
      refine gk_seq (by kernel_rfl) ?_
      refine gk_region (by kernel_rfl) ?_
      obtain ⟨x20, hx21, hb9⟩ := bind_some hb9
      obtain ⟨p22, cs23, hR24, hA25, ha26⟩ := RepS.ixAt hx21 (hf0_0.mono hI10)
      have hi27 := ix_some hx21
      obtain ⟨A28, n29, rfl, hf30⟩ := sl_open hR24
      refine gl_indexAddrF (c := n0_0) (T' := 22) (e := 36) (xs := (.tmp 7)) (xi := (.tmp 9)) (kd := .i64) ha26 hi27.1 hi27.2.1 (by kernel_rfl) (by kernel_rfl) (by kernel_rfl) (by kernel_rfl) (by kernel_rfl) ?_
      refine gl_load (T' := 36) (xp := (.tmp 11)) (p := p22) (c := .slice A28 x20.length n29) (n := 1) (by kernel_rfl) (by kernel_rfl) (by kernel_rfl) (by kernel_rfl) hA25 ?_
      refine gl_alloc (T' := 36) (cs := #[.slice none 0 0]) (by kernel_rfl) (by kernel_rfl) (by kernel_rfl) (fun g31 => ?_)
      refine gl_storeB (T' := 36) (xp := (.tmp 6)) (xv := (.tmp 12)) (v := .slice A28 x20.length n29) (g := g31) (off := 0) (cs := #[.slice none 0 0]) (cs' := #[.slice A28 x20.length n29]) (by kernel_rfl) (by kernel_rfl) (by kernel_rfl) (by kernel_rfl) (by kernel_rfl) (Upd.set _ _ _ _) ?_ (by kernel_rfl)
      refine gl_atE (by kernel_rfl) ?_
      refine ge_seq ?_
      refine gk_seq (by kernel_rfl) ?_
      refine gk_region (by kernel_rfl) ?_
      refine gl_pure 2 [1, 7, 8, 9, 13, 14] (K' := [(1, .slice A1_0 a1.length n1_0), (7, .slice A0_0 a0.length n0_0), (8, .int .i64 (a0.length : Int)), (9, .int .i64 s7), (13, .slice A1_0 a1.length n1_0), (14, .func (.func 75) #[] #[.pointer (some ⟨g31, 0, none⟩)])]) (by kernel_rfl) ?_
      obtain ⟨y32, hx33, hb9⟩ := bind_some hb9
      refine gl_callB (r := .bool y32) (Tk.step (Upd.rm1 _ _) (Tk.nil _)) (by kernel_rfl) (fun J hJ hC => slices_ContainsFunc_walk (r := y32) (hf1_0.mono (Imm.trans hI10 hJ)) (nflog_Within_1_impl122 hC.left.blk (hf30.mono hJ)) hx33 _) ?_
      refine gl_pure 1 [1, 7, 8, 9, 16] (K' := [(1, .slice A1_0 a1.length n1_0), (7, .slice A0_0 a0.length n0_0), (8, .int .i64 (a0.length : Int)), (9, .int .i64 s7), (16, .bool (!y32))]) (by kernel_rfl) ?_
      refine gl_atE (by kernel_rfl) ?_
      refine ge_seq ?_
      refine gk_cond (b := (!y32)) (by kernel_rfl) (by kernel_rfl) (fun hc34 => ?_) (fun hc34 => ?_)
      · have hb9 := cond_t hc34 hb9
        refine gk_seq (by kernel_rfl) ?_
        refine gk_region (by kernel_rfl) ?_
        refine gl_pure 1 [4] (K' := [(4, .bool false)]) (by kernel_rfl) ?_
        refine gl_atE (by kernel_rfl) ?_
        refine ge_seq ?_
        refine gk_reord (D := L) (Reord.skip (Reord.refl _)) ?_
        refine gk_ret (by kernel_rfl) ?_
        refine ge_block_ret ?_
        refine ge_seq_ret ?_
        obtain rfl := some_inj hb9
        refine ge_round_out (fun hrr => ?_) (by intro h; cases h)
        obtain rfl := hrr
        refine ge_block_ret ?_
        refine ge_seq_ret ?_
        refine ge_seq_ret ?_
        obtain rfl := some_inj hr
        exact ge_result trivial (ResOk.tmp (by kernel_rfl) ResOk.nil) hI10 ⟨rfl, rfl⟩
      · have hb9 := cond_f hc34 hb9
        refine gk_skip (by kernel_rfl) ?_
        refine ge_block_normal ?_
        refine ge_seq ?_
        refine gk_region (by kernel_rfl) ?_
        refine gl_pure 2 [1, 7, 8, 9] (K' := [(1, .slice A1_0 a1.length n1_0), (7, .slice A0_0 a0.length n0_0), (8, .int .i64 (a0.length : Int)), (9, .int .i64 (IntKind.wrap .i64 (s7 + 1)))]) (by kernel_rfl) ?_
        refine gl_reord (D := L) (Reord.skip (Reord.refl _)) ?_
        refine gl_atE (by kernel_rfl) ?_
        obtain rfl := some_inj hb9
        exact ge_round fun t ht => ⟨hI10, rfl, ht.pick (l := [1, 7, 8, 9]) (by kernel_rfl)⟩
    · have hb9 := cond_f hc19 hb9
      refine gk_exit (by kernel_rfl) ?_
      refine ge_seq_exit ?_
      obtain rfl := some_inj hb9
      refine ge_round_out (fun hrr => ?_) (by intro h; cases h)
      obtain rfl := hrr
      refine ge_block_hit (by kernel_rfl) ?_
      exact ge_mid fun t ht => ⟨_, rfl, hI10, rfl, ht.pick (l := []) (by kernel_rfl)⟩
  · rintro t I16 L' ⟨r13, rfl, hI14, rfl, hK15⟩
    refine ge_at hK15 ?_
    refine ge_seq ?_
    refine gk_seq (by kernel_rfl) ?_
    refine gk_region (by kernel_rfl) ?_
    refine gl_pure 1 [4] (K' := [(4, .bool true)]) (by kernel_rfl) ?_
    refine gl_atE (by kernel_rfl) ?_
    refine ge_seq ?_
    refine gk_ret (by kernel_rfl) ?_
    obtain rfl := some_inj hr
    exact ge_result trivial (ResOk.tmp (by kernel_rfl) ResOk.nil) hI14 ⟨rfl, rfl⟩
/-! 30 nflog_Needs  -/
noncomputable def nflog_Needs (a0 : S23) (a1 : Bool) (a2 : Int) (a3 : Int) (a4 : List (List S79)) (a5 : List (List S79)) : Option (Bool × Int) :=
  bif ((((decide (a2 < 0)) || (decide (a2 > 1125899906842624))) || (decide (a3 < 1))) || (decide (a3 > 1099511627776))) then
  (some (false, 1))
  else
  (Option.bind (Option.bind (nflog_right a4) fun (y16 : Bool) =>
      bif (!y16) then
      (some true)
      else
      (Option.bind (nflog_right a5) fun (y19 : Bool) =>
        some (!y19))) fun (j11 : Bool) =>
    bif j11 then
    (some (false, 41))
    else
    (bif (!a1) then
      (some ((decide ((a4.length : Int) > 0)), 0))
      else
      (Option.bind (nflog_Right a0) fun (y23 : Int) =>
        bif (y23 != 0) then
        (some (false, y23))
        else
        (Option.bind (nflog_Within a4 a0.f3) fun (y26 : Bool) =>
          bif (!y26) then
          (some (true, 0))
          else
          (bif ((a4.length : Int) == 0) then
            (some ((decide ((a0.f3.length : Int) > 0)), 0))
            else
            (Option.bind (nflog_Within a5 a0.f4) fun (y30 : Bool) =>
              bif (!y30) then
              (some (true, 0))
              else
              (some ((decide (a0.f2 ≤ (IntKind.wrap .i64 (a2 - a3)))), 0))))))))
theorem nflog_Needs_walk {a0 : S23} {A0_3 : Option Addr} {n0_3 : Nat} {A0_4 : Option Addr} {n0_4 : Nat} {a1 : Bool} {a2 : Int} {a3 : Int} {a4 : List (List S79)} {A4_0 : Option Addr} {n4_0 : Nat} {a5 : List (List S79)} {A5_0 : Option Addr} {n5_0 : Nat} {I : Imm} {r : Bool × Int} (hG : Gl I)  (hf0_3 : RepS (Kd.sl kS79) I A0_3 n0_3 a0.f3) (hf0_4 : RepS (Kd.sl kS79) I A0_4 n0_4 a0.f4)  (hf4_0 : RepS (Kd.sl kS79) I A4_0 n4_0 a4)  (hf5_0 : RepS (Kd.sl kS79) I A5_0 n5_0 a5) (hr : nflog_Needs a0 a1 a2 a3 a4 a5 = some r) (L : Own) :
    CallsTo Tryd.prog 30 #[.agg #[.string a0.f0, .string a0.f1, .int .i64 a0.f2, .slice A0_3 a0.f3.length n0_3, .slice A0_4 a0.f4.length n0_4], .bool a1, .int .i64 a2, .int .i64 a3, .slice A4_0 a4.length n4_0, .slice A5_0 a5.length n5_0] I L (fun v I' L' => v = .tuple #[.bool r.1, .int .i64 r.2] ∧ L = L') := by
  unfold nflog_Needs at hr
  refine callsTo_body (N := 76) Tryd.func30 (by kernel_rfl) (by kernel_rfl) (by kernel_rfl) ?_
  refine gk_pick [0, 1, 2, 3, 4, 5] (K' := [(0, .agg #[.string a0.f0, .string a0.f1, .int .i64 a0.f2, .slice A0_3 a0.f3.length n0_3, .slice A0_4 a0.f4.length n0_4]), (1, .bool a1), (2, .int .i64 a2), (3, .int .i64 a3), (4, .slice A4_0 a4.length n4_0), (5, .slice A5_0 a5.length n5_0)]) (by kernel_rfl) ?_
  refine gk_seq (by kernel_rfl) ?_
  refine gk_region (by kernel_rfl) ?_
  refine gl_box (T' := 24) (x := (.tmp 0)) (v := .agg #[.string a0.f0, .string a0.f1, .int .i64 a0.f2, .slice A0_3 a0.f3.length n0_3, .slice A0_4 a0.f4.length n0_4]) (cs := #[.string a0.f0, .string a0.f1, .int .i64 a0.f2, .slice A0_3 a0.f3.length n0_3, .slice A0_4 a0.f4.length n0_4]) (by kernel_rfl) (by kernel_rfl) (by kernel_rfl) (by kernel_rfl) (fun g1 => ?_)
  refine gl_pure 2 [1, 2, 3, 4, 5, 6] (K' := [(1, .bool a1), (2, .int .i64 a2), (3, .int .i64 a3), (4, .slice A4_0 a4.length n4_0), (5, .slice A5_0 a5.length n5_0), (6, .pointer (some ⟨g1, 0, none⟩))]) (by kernel_rfl) ?_
  refine gl_atE (by kernel_rfl) ?_
  refine ge_seq ?_
  refine gk_seq (by kernel_rfl) ?_
  refine gk_block (by kernel_rfl) ?_
  refine gk_seq (by kernel_rfl) ?_
  obtain ⟨b4, hb5⟩ : ∃ z, z = ((((decide (a2 < 0)) || (decide (a2 > 1125899906842624))) || (decide (a3 < 1))) || (decide (a3 > 1099511627776))) := ⟨_, rfl⟩
  refine gk_join (fun t I' L' => I ≤ I' ∧ (g1, .cells #[.string a0.f0, .string a0.f1, .int .i64 a0.f2, .slice A0_3 a0.f3.length n0_3, .slice A0_4 a0.f4.length n0_4] 24) :: L = L' ∧ Knows 76 [(1, .bool a1), (2, .int .i64 a2), (3, .int .i64 a3), (4, .slice A4_0 a4.length n4_0), (5, .slice A5_0 a5.length n5_0), (6, .pointer (some ⟨g1, 0, none⟩)), (15, .bool b4)] t) ?_ ?_
  · refine gk_region (by kernel_rfl) ?_
    refine gl_pure 3 [1, 2, 3, 4, 5, 6, 18] (K' := [(1, .bool a1), (2, .int .i64 a2), (3, .int .i64 a3), (4, .slice A4_0 a4.length n4_0), (5, .slice A5_0 a5.length n5_0), (6, .pointer (some ⟨g1, 0, none⟩)), (18, .bool (decide (a2 < 0)))]) (by kernel_rfl) ?_
    refine gl_case 18 (b := (decide (a2 < 0))) (by kernel_rfl) (fun hc7 => ?_) (fun hc7 => ?_)
    · refine gl_pure 12 [1, 2, 3, 4, 5, 6, 15] (K' := [(1, .bool a1), (2, .int .i64 a2), (3, .int .i64 a3), (4, .slice A4_0 a4.length n4_0), (5, .slice A5_0 a5.length n5_0), (6, .pointer (some ⟨g1, 0, none⟩)), (15, .bool true)]) (by kernel_rfl) ?_
      refine gl_atE (by kernel_rfl) ?_
      exact ge_mid fun t ht => ⟨(Imm.refl _), rfl, by rw [(show b4 = true from hb5.trans (by rw [hc7]; try rfl))]; exact ht.pick (l := [1, 2, 3, 4, 5, 6, 15]) (by kernel_rfl)⟩
    · refine gl_pure 4 [1, 2, 3, 4, 5, 6, 22] (K' := [(1, .bool a1), (2, .int .i64 a2), (3, .int .i64 a3), (4, .slice A4_0 a4.length n4_0), (5, .slice A5_0 a5.length n5_0), (6, .pointer (some ⟨g1, 0, none⟩)), (22, .bool (decide (a2 > 1125899906842624)))]) (by kernel_rfl) ?_
      refine gl_case 22 (b := (decide (a2 > 1125899906842624))) (by kernel_rfl) (fun hc8 => ?_) (fun hc8 => ?_)
      · refine gl_pure 8 [1, 2, 3, 4, 5, 6, 15] (K' := [(1, .bool a1), (2, .int .i64 a2), (3, .int .i64 a3), (4, .slice A4_0 a4.length n4_0), (5, .slice A5_0 a5.length n5_0), (6, .pointer (some ⟨g1, 0, none⟩)), (15, .bool true)]) (by kernel_rfl) ?_
        refine gl_atE (by kernel_rfl) ?_
        exact ge_mid fun t ht => ⟨(Imm.refl _), rfl, by rw [(show b4 = true from hb5.trans (by rw [hc7, hc8]; try rfl))]; exact ht.pick (l := [1, 2, 3, 4, 5, 6, 15]) (by kernel_rfl)⟩
      · refine gl_pure 4 [1, 2, 3, 4, 5, 6, 26] (K' := [(1, .bool a1), (2, .int .i64 a2), (3, .int .i64 a3), (4, .slice A4_0 a4.length n4_0), (5, .slice A5_0 a5.length n5_0), (6, .pointer (some ⟨g1, 0, none⟩)), (26, .bool (decide (a3 < 1)))]) (by kernel_rfl) ?_
        refine gl_case 26 (b := (decide (a3 < 1))) (by kernel_rfl) (fun hc9 => ?_) (fun hc9 => ?_)
        · refine gl_pure 4 [1, 2, 3, 4, 5, 6, 15] (K' := [(1, .bool a1), (2, .int .i64 a2), (3, .int .i64 a3), (4, .slice A4_0 a4.length n4_0), (5, .slice A5_0 a5.length n5_0), (6, .pointer (some ⟨g1, 0, none⟩)), (15, .bool true)]) (by kernel_rfl) ?_
          refine gl_atE (by kernel_rfl) ?_
          exact ge_mid fun t ht => ⟨(Imm.refl _), rfl, by rw [(show b4 = true from hb5.trans (by rw [hc7, hc8, hc9]; try rfl))]; exact ht.pick (l := [1, 2, 3, 4, 5, 6, 15]) (by kernel_rfl)⟩
        · refine gl_pure 4 [1, 2, 3, 4, 5, 6, 15] (K' := [(1, .bool a1), (2, .int .i64 a2), (3, .int .i64 a3), (4, .slice A4_0 a4.length n4_0), (5, .slice A5_0 a5.length n5_0), (6, .pointer (some ⟨g1, 0, none⟩)), (15, .bool (decide (a3 > 1099511627776)))]) (by kernel_rfl) ?_
          refine gl_atE (by kernel_rfl) ?_
          exact ge_mid fun t ht => ⟨(Imm.refl _), rfl, by rw [(show b4 = (decide (a3 > 1099511627776)) from hb5.trans (by rw [hc7, hc8, hc9]; try rfl))]; exact ht.pick (l := [1, 2, 3, 4, 5, 6, 15]) (by kernel_rfl)⟩
  · rintro t I6 L' ⟨hI2, rfl, hK3⟩
    subst hb5
    refine ge_at hK3 ?_
    refine ge_seq ?_
    refine gk_cond (b := ((((decide (a2 < 0)) || (decide (a2 > 1125899906842624))) || (decide (a3 < 1))) || (decide (a3 > 1099511627776)))) (by kernel_rfl) (by kernel_rfl) (fun hc10 => ?_) (fun hc10 => ?_)
    · have hr := cond_t hc10 hr
      refine gk_seq (by kernel_rfl) ?_
      refine gk_region (by kernel_rfl) ?_
      refine gl_pure 2 [12, 13] (K' := [(12, .bool false), (13, .int .i64 1)]) (by kernel_rfl) ?_
      refine gl_atE (by kernel_rfl) ?_
      refine ge_seq ?_
      refine gk_reord (D := L) (Reord.skip (Reord.refl _)) ?_
      refine gk_ret (by kernel_rfl) ?_
      refine ge_block_ret ?_
      refine ge_seq_ret ?_
      obtain rfl := some_inj hr
      exact ge_result trivial (ResOk.tmp (by kernel_rfl) (ResOk.tmp (by kernel_rfl) ResOk.nil)) hI2 ⟨rfl, rfl⟩
    · have hr := cond_f hc10 hr
      refine gk_seq (by kernel_rfl) ?_
      obtain ⟨j11, hj12, hr⟩ := bind_some hr
      refine gk_join (fun t I' L' => I6 ≤ I' ∧ (g1, .cells #[.string a0.f0, .string a0.f1, .int .i64 a0.f2, .slice A0_3 a0.f3.length n0_3, .slice A0_4 a0.f4.length n0_4] 24) :: L = L' ∧ Knows 76 [(1, .bool a1), (2, .int .i64 a2), (3, .int .i64 a3), (4, .slice A4_0 a4.length n4_0), (5, .slice A5_0 a5.length n5_0), (6, .pointer (some ⟨g1, 0, none⟩)), (30, .bool j11)] t) ?_ ?_
      · refine gk_region (by kernel_rfl) ?_
        refine gl_pure 1 [1, 2, 3, 4, 5, 6, 31] (K' := [(1, .bool a1), (2, .int .i64 a2), (3, .int .i64 a3), (4, .slice A4_0 a4.length n4_0), (5, .slice A5_0 a5.length n5_0), (6, .pointer (some ⟨g1, 0, none⟩)), (31, .slice A4_0 a4.length n4_0)]) (by kernel_rfl) ?_
        obtain ⟨y16, hx17, hj12⟩ := bind_some hj12
        refine gl_callQ (by kernel_rfl) (nflog_right_walk (r := y16) (hG.mono hI2) (hf4_0.mono hI2) hx17 _) ?_
        refine gl_pure 2 [1, 2, 3, 4, 5, 6, 34] (K' := [(1, .bool a1), (2, .int .i64 a2), (3, .int .i64 a3), (4, .slice A4_0 a4.length n4_0), (5, .slice A5_0 a5.length n5_0), (6, .pointer (some ⟨g1, 0, none⟩)), (34, .bool (!y16))]) (by kernel_rfl) ?_
        refine gl_case 34 (b := (!y16)) (by kernel_rfl) (fun hc18 => ?_) (fun hc18 => ?_)
        · have hj12 := cond_t hc18 hj12
          refine gl_pure 5 [1, 2, 3, 4, 5, 6, 30] (K' := [(1, .bool a1), (2, .int .i64 a2), (3, .int .i64 a3), (4, .slice A4_0 a4.length n4_0), (5, .slice A5_0 a5.length n5_0), (6, .pointer (some ⟨g1, 0, none⟩)), (30, .bool true)]) (by kernel_rfl) ?_
          refine gl_atE (by kernel_rfl) ?_
          obtain rfl := some_inj hj12
          exact ge_mid fun t ht => ⟨(Imm.refl _), rfl, ht.pick (l := [1, 2, 3, 4, 5, 6, 30]) (by kernel_rfl)⟩
        · have hj12 := cond_f hc18 hj12
          refine gl_pure 1 [1, 2, 3, 4, 5, 6, 34, 35] (K' := [(1, .bool a1), (2, .int .i64 a2), (3, .int .i64 a3), (4, .slice A4_0 a4.length n4_0), (5, .slice A5_0 a5.length n5_0), (6, .pointer (some ⟨g1, 0, none⟩)), (34, .bool false), (35, .slice A5_0 a5.length n5_0)]) (by kernel_rfl) ?_
          obtain ⟨y19, hx20, hj12⟩ := bind_some hj12
          refine gl_callQ (by kernel_rfl) (nflog_right_walk (r := y19) (hG.mono hI2) (hf5_0.mono hI2) hx20 _) ?_
          refine gl_pure 3 [1, 2, 3, 4, 5, 6, 30] (K' := [(1, .bool a1), (2, .int .i64 a2), (3, .int .i64 a3), (4, .slice A4_0 a4.length n4_0), (5, .slice A5_0 a5.length n5_0), (6, .pointer (some ⟨g1, 0, none⟩)), (30, .bool (!y19))]) (by kernel_rfl) ?_
          refine gl_atE (by kernel_rfl) ?_
          obtain rfl := some_inj hj12
          exact ge_mid fun t ht => ⟨(Imm.refl _), rfl, ht.pick (l := [1, 2, 3, 4, 5, 6, 30]) (by kernel_rfl)⟩
      · rintro t I15 L' ⟨hI13, rfl, hK14⟩
        refine ge_at hK14 ?_
        refine ge_seq ?_
        refine gk_cond (b := j11) (by kernel_rfl) (by kernel_rfl) (fun hc21 => ?_) (fun hc21 => ?_)
        · have hr := cond_t hc21 hr
          refine gk_seq (by kernel_rfl) ?_
          refine gk_region (by kernel_rfl) ?_
          refine gl_pure 2 [12, 13] (K' := [(12, .bool false), (13, .int .i64 41)]) (by kernel_rfl) ?_
          refine gl_atE (by kernel_rfl) ?_
          refine ge_seq ?_
          refine gk_reord (D := L) (Reord.skip (Reord.refl _)) ?_
          refine gk_ret (by kernel_rfl) ?_
          refine ge_block_ret ?_
          refine ge_seq_ret ?_
          obtain rfl := some_inj hr
          exact ge_result trivial (ResOk.tmp (by kernel_rfl) (ResOk.tmp (by kernel_rfl) ResOk.nil)) (Imm.trans hI2 hI13) ⟨rfl, rfl⟩
        · have hr := cond_f hc21 hr
          refine gk_seq (by kernel_rfl) ?_
          refine gk_region (by kernel_rfl) ?_
          refine gl_pure 3 [2, 3, 4, 5, 6, 39] (K' := [(2, .int .i64 a2), (3, .int .i64 a3), (4, .slice A4_0 a4.length n4_0), (5, .slice A5_0 a5.length n5_0), (6, .pointer (some ⟨g1, 0, none⟩)), (39, .bool (!a1))]) (by kernel_rfl) ?_
          refine gl_atE (by kernel_rfl) ?_
          refine ge_seq ?_
          refine gk_cond (b := (!a1)) (by kernel_rfl) (by kernel_rfl) (fun hc22 => ?_) (fun hc22 => ?_)
          · have hr := cond_t hc22 hr
            refine gk_seq (by kernel_rfl) ?_
            refine gk_region (by kernel_rfl) ?_
            refine gl_pure 5 [12, 13] (K' := [(12, .bool (decide ((a4.length : Int) > 0))), (13, .int .i64 0)]) (by kernel_rfl) ?_
            refine gl_atE (by kernel_rfl) ?_
            refine ge_seq ?_
            refine gk_reord (D := L) (Reord.skip (Reord.refl _)) ?_
            refine gk_ret (by kernel_rfl) ?_
            refine ge_block_ret ?_
            refine ge_seq_ret ?_
            obtain rfl := some_inj hr
            exact ge_result trivial (ResOk.tmp (by kernel_rfl) (ResOk.tmp (by kernel_rfl) ResOk.nil)) (Imm.trans hI2 hI13) ⟨rfl, rfl⟩
          · have hr := cond_f hc22 hr
            refine gk_skip (by kernel_rfl) ?_
            refine ge_block_normal ?_
            refine ge_seq ?_
            refine gk_seq (by kernel_rfl) ?_
            refine gk_seq (by kernel_rfl) ?_
            refine gk_region (by kernel_rfl) ?_
            refine gl_loadB (T' := 24) (xp := (.tmp 6)) (v := .agg #[.string a0.f0, .string a0.f1, .int .i64 a0.f2, .slice A0_3 a0.f3.length n0_3, .slice A0_4 a0.f4.length n0_4]) (g := g1) (off := 0) (cs := #[.string a0.f0, .string a0.f1, .int .i64 a0.f2, .slice A0_3 a0.f3.length n0_3, .slice A0_4 a0.f4.length n0_4]) (e := 24) (fz := (0, 0)) (by kernel_rfl) (by kernel_rfl) (by kernel_rfl) List.mem_cons_self (by kernel_rfl) ?_
            obtain ⟨y23, hx24, hr⟩ := bind_some hr
            refine gl_callQ (by kernel_rfl) (nflog_Right_walk (r := y23) (hG.mono (Imm.trans hI2 hI13)) (hf0_3.mono (Imm.trans hI2 hI13)) (hf0_4.mono (Imm.trans hI2 hI13)) hx24 _) ?_
            refine gl_pure 1 [2, 3, 4, 5, 6, 14] (K' := [(2, .int .i64 a2), (3, .int .i64 a3), (4, .slice A4_0 a4.length n4_0), (5, .slice A5_0 a5.length n5_0), (6, .pointer (some ⟨g1, 0, none⟩)), (14, .int .i64 y23)]) (by kernel_rfl) ?_
            refine gl_atE (by kernel_rfl) ?_
            refine ge_seq ?_
            refine gk_seq (by kernel_rfl) ?_
            refine gk_region (by kernel_rfl) ?_
            refine gl_pure 2 [2, 3, 4, 5, 6, 14, 48] (K' := [(2, .int .i64 a2), (3, .int .i64 a3), (4, .slice A4_0 a4.length n4_0), (5, .slice A5_0 a5.length n5_0), (6, .pointer (some ⟨g1, 0, none⟩)), (14, .int .i64 y23), (48, .bool (y23 != 0))]) (by kernel_rfl) ?_
            refine gl_atE (by kernel_rfl) ?_
            refine ge_seq ?_
            refine gk_cond (b := (y23 != 0)) (by kernel_rfl) (by kernel_rfl) (fun hc25 => ?_) (fun hc25 => ?_)
            · have hr := cond_t hc25 hr
              refine gk_seq (by kernel_rfl) ?_
              refine gk_region (by kernel_rfl) ?_
              refine gl_pure 3 [12, 13] (K' := [(12, .bool false), (13, .int .i64 y23)]) (by kernel_rfl) ?_
              refine gl_atE (by kernel_rfl) ?_
              refine ge_seq ?_
              refine gk_reord (D := L) (Reord.skip (Reord.refl _)) ?_
              refine gk_ret (by kernel_rfl) ?_
              refine ge_seq_ret ?_
              obtain rfl := some_inj hr
              exact ge_result trivial (ResOk.tmp (by kernel_rfl) (ResOk.tmp (by kernel_rfl) ResOk.nil)) (Imm.trans hI2 hI13) ⟨rfl, rfl⟩
            · have hr := cond_f hc25 hr
              refine gk_skip (by kernel_rfl) ?_
              refine ge_seq ?_
              refine gk_seq (by kernel_rfl) ?_
              refine gk_block (by kernel_rfl) ?_
              refine gk_seq (by kernel_rfl) ?_
              refine gk_region (by kernel_rfl) ?_
              refine gl_pure 2 [2, 3, 4, 5, 6, 51, 52] (K' := [(2, .int .i64 a2), (3, .int .i64 a3), (4, .slice A4_0 a4.length n4_0), (5, .slice A5_0 a5.length n5_0), (6, .pointer (some ⟨g1, 0, none⟩)), (51, .slice A4_0 a4.length n4_0), (52, .pointer (some ⟨g1, 3, none⟩))]) (by kernel_rfl) ?_
              refine gl_loadB (T' := 22) (xp := (.tmp 52)) (v := .slice A0_3 a0.f3.length n0_3) (g := g1) (off := 3) (cs := #[.string a0.f0, .string a0.f1, .int .i64 a0.f2, .slice A0_3 a0.f3.length n0_3, .slice A0_4 a0.f4.length n0_4]) (e := 24) (fz := (0, 0)) (by kernel_rfl) (by kernel_rfl) (by kernel_rfl) List.mem_cons_self (by kernel_rfl) ?_
              obtain ⟨y26, hx27, hr⟩ := bind_some hr
              refine gl_callQ (by kernel_rfl) (nflog_Within_walk (r := y26) (hf4_0.mono (Imm.trans hI2 hI13)) (hf0_3.mono (Imm.trans hI2 hI13)) hx27 _) ?_
              refine gl_pure 2 [2, 3, 4, 5, 6, 50] (K' := [(2, .int .i64 a2), (3, .int .i64 a3), (4, .slice A4_0 a4.length n4_0), (5, .slice A5_0 a5.length n5_0), (6, .pointer (some ⟨g1, 0, none⟩)), (50, .bool (!y26))]) (by kernel_rfl) ?_
              refine gl_atE (by kernel_rfl) ?_
              refine ge_seq ?_
              refine gk_cond (b := (!y26)) (by kernel_rfl) (by kernel_rfl) (fun hc28 => ?_) (fun hc28 => ?_)
              · have hr := cond_t hc28 hr
                refine gk_seq (by kernel_rfl) ?_
                refine gk_region (by kernel_rfl) ?_
                refine gl_pure 2 [12, 13] (K' := [(12, .bool true), (13, .int .i64 0)]) (by kernel_rfl) ?_
                refine gl_atE (by kernel_rfl) ?_
                refine ge_seq ?_
                refine gk_reord (D := L) (Reord.skip (Reord.refl _)) ?_
                refine gk_ret (by kernel_rfl) ?_
                refine ge_block_ret ?_
                refine ge_seq_ret ?_
                obtain rfl := some_inj hr
                exact ge_result trivial (ResOk.tmp (by kernel_rfl) (ResOk.tmp (by kernel_rfl) ResOk.nil)) (Imm.trans hI2 hI13) ⟨rfl, rfl⟩
              · have hr := cond_f hc28 hr
                refine gk_seq (by kernel_rfl) ?_
                refine gk_region (by kernel_rfl) ?_
                refine gl_pure 4 [2, 3, 5, 6, 56] (K' := [(2, .int .i64 a2), (3, .int .i64 a3), (5, .slice A5_0 a5.length n5_0), (6, .pointer (some ⟨g1, 0, none⟩)), (56, .bool ((a4.length : Int) == 0))]) (by kernel_rfl) ?_
                refine gl_atE (by kernel_rfl) ?_
                refine ge_seq ?_
                refine gk_cond (b := ((a4.length : Int) == 0)) (by kernel_rfl) (by kernel_rfl) (fun hc29 => ?_) (fun hc29 => ?_)
                · have hr := cond_t hc29 hr
                  refine gk_seq (by kernel_rfl) ?_
                  refine gk_region (by kernel_rfl) ?_
                  refine gl_pure 1 [60] (K' := [(60, .pointer (some ⟨g1, 3, none⟩))]) (by kernel_rfl) ?_
                  refine gl_loadB (T' := 22) (xp := (.tmp 60)) (v := .slice A0_3 a0.f3.length n0_3) (g := g1) (off := 3) (cs := #[.string a0.f0, .string a0.f1, .int .i64 a0.f2, .slice A0_3 a0.f3.length n0_3, .slice A0_4 a0.f4.length n0_4]) (e := 24) (fz := (0, 0)) (by kernel_rfl) (by kernel_rfl) (by kernel_rfl) List.mem_cons_self (by kernel_rfl) ?_
                  refine gl_pure 4 [12, 13] (K' := [(12, .bool (decide ((a0.f3.length : Int) > 0))), (13, .int .i64 0)]) (by kernel_rfl) ?_
                  refine gl_atE (by kernel_rfl) ?_
                  refine ge_seq ?_
                  refine gk_reord (D := L) (Reord.skip (Reord.refl _)) ?_
                  refine gk_ret (by kernel_rfl) ?_
                  refine ge_block_ret ?_
                  refine ge_seq_ret ?_
                  obtain rfl := some_inj hr
                  exact ge_result trivial (ResOk.tmp (by kernel_rfl) (ResOk.tmp (by kernel_rfl) ResOk.nil)) (Imm.trans hI2 hI13) ⟨rfl, rfl⟩
                · have hr := cond_f hc29 hr
                  refine gk_seq (by kernel_rfl) ?_
                  refine gk_region (by kernel_rfl) ?_
                  refine gl_pure 2 [2, 3, 6, 65, 66] (K' := [(2, .int .i64 a2), (3, .int .i64 a3), (6, .pointer (some ⟨g1, 0, none⟩)), (65, .slice A5_0 a5.length n5_0), (66, .pointer (some ⟨g1, 4, none⟩))]) (by kernel_rfl) ?_
                  refine gl_loadB (T' := 22) (xp := (.tmp 66)) (v := .slice A0_4 a0.f4.length n0_4) (g := g1) (off := 4) (cs := #[.string a0.f0, .string a0.f1, .int .i64 a0.f2, .slice A0_3 a0.f3.length n0_3, .slice A0_4 a0.f4.length n0_4]) (e := 24) (fz := (0, 0)) (by kernel_rfl) (by kernel_rfl) (by kernel_rfl) List.mem_cons_self (by kernel_rfl) ?_
                  obtain ⟨y30, hx31, hr⟩ := bind_some hr
                  refine gl_callQ (by kernel_rfl) (nflog_Within_walk (r := y30) (hf5_0.mono (Imm.trans hI2 hI13)) (hf0_4.mono (Imm.trans hI2 hI13)) hx31 _) ?_
                  refine gl_pure 2 [2, 3, 6, 64] (K' := [(2, .int .i64 a2), (3, .int .i64 a3), (6, .pointer (some ⟨g1, 0, none⟩)), (64, .bool (!y30))]) (by kernel_rfl) ?_
                  refine gl_atE (by kernel_rfl) ?_
                  refine ge_seq ?_
                  refine gk_cond (b := (!y30)) (by kernel_rfl) (by kernel_rfl) (fun hc32 => ?_) (fun hc32 => ?_)
                  · have hr := cond_t hc32 hr
                    refine gk_seq (by kernel_rfl) ?_
                    refine gk_region (by kernel_rfl) ?_
                    refine gl_pure 2 [12, 13] (K' := [(12, .bool true), (13, .int .i64 0)]) (by kernel_rfl) ?_
                    refine gl_atE (by kernel_rfl) ?_
                    refine ge_seq ?_
                    refine gk_reord (D := L) (Reord.skip (Reord.refl _)) ?_
                    refine gk_ret (by kernel_rfl) ?_
                    refine ge_block_ret ?_
                    refine ge_seq_ret ?_
                    obtain rfl := some_inj hr
                    exact ge_result trivial (ResOk.tmp (by kernel_rfl) (ResOk.tmp (by kernel_rfl) ResOk.nil)) (Imm.trans hI2 hI13) ⟨rfl, rfl⟩
                  · have hr := cond_f hc32 hr
                    refine gk_skip (by kernel_rfl) ?_
                    refine ge_block_normal ?_
                    refine ge_seq ?_
                    refine gk_seq (by kernel_rfl) ?_
                    refine gk_region (by kernel_rfl) ?_
                    refine gl_pure 1 [2, 3, 70] (K' := [(2, .int .i64 a2), (3, .int .i64 a3), (70, .pointer (some ⟨g1, 2, none⟩))]) (by kernel_rfl) ?_
                    refine gl_loadB (T' := 2) (xp := (.tmp 70)) (v := .int .i64 a0.f2) (g := g1) (off := 2) (cs := #[.string a0.f0, .string a0.f1, .int .i64 a0.f2, .slice A0_3 a0.f3.length n0_3, .slice A0_4 a0.f4.length n0_4]) (e := 24) (fz := (0, 0)) (by kernel_rfl) (by kernel_rfl) (by kernel_rfl) List.mem_cons_self (by kernel_rfl) ?_
                    refine gl_pure 6 [12, 13] (K' := [(12, .bool (decide (a0.f2 ≤ (IntKind.wrap .i64 (a2 - a3))))), (13, .int .i64 0)]) (by kernel_rfl) ?_
                    refine gl_atE (by kernel_rfl) ?_
                    refine ge_seq ?_
                    refine gk_reord (D := L) (Reord.skip (Reord.refl _)) ?_
                    refine gk_ret (by kernel_rfl) ?_
                    obtain rfl := some_inj hr
                    exact ge_result trivial (ResOk.tmp (by kernel_rfl) (ResOk.tmp (by kernel_rfl) ResOk.nil)) (Imm.trans hI2 hI13) ⟨rfl, rfl⟩
/-! 14 nflog_Log_Needs_f14 ('obj', 'imm', 'imm', 'imm', 'imm', 'imm', 'imm') -/
noncomputable def nflog_Log_Needs_f14 (a0 : S77) (a1 : ByteArray) (a2 : ByteArray) (a3 : Int) (a4 : Int) (a5 : List (List S79)) (a6 : List (List S79)) : Option (Bool × Int) :=
  Option.bind (nflog_Log_Find_f13 a0 a1 a2) fun (y1 : S23 × Bool) =>
  Option.bind (nflog_Needs y1.1 y1.2 a3 a4 a5 a6) fun (y13 : Bool × Int) =>
  some (y13.1, y13.2)
theorem nflog_Log_Needs_f14_walk {a0 : S77} {g0 : Nat} {T0 : TypeId} {A0_0 : Option Addr} {c0_0 : Nat} {C0_0 : Own} {a1 : ByteArray} {a2 : ByteArray} {a3 : Int} {a4 : Int} {a5 : List (List S79)} {A5_0 : Option Addr} {n5_0 : Nat} {a6 : List (List S79)} {A6_0 : Option Addr} {n6_0 : Nat} {I : Imm} {r : Bool × Int} (hG : Gl I)  (hO0_0 : OwnS kS86 87 I A0_0 c0_0 a0.f0.f0 C0_0)  (hf5_0 : RepS (Kd.sl kS79) I A5_0 n5_0 a5)  (hf6_0 : RepS (Kd.sl kS79) I A6_0 n6_0 a6) (hr : nflog_Log_Needs_f14 a0 a1 a2 a3 a4 a5 a6 = some r) (L : Own) :
    CallsTo Tryd.prog 14 #[.pointer (some ⟨g0, 0, none⟩), .string a1, .string a2, .int .i64 a3, .int .i64 a4, .slice A5_0 a5.length n5_0, .slice A6_0 a6.length n6_0] I ((g0, .cells #[.slice A0_0 a0.f0.f0.length c0_0] T0) :: (C0_0 ++ L)) (fun v I' L' => v = .tuple #[.bool r.1, .int .i64 r.2] ∧ (g0, .cells #[.slice A0_0 a0.f0.f0.length c0_0] T0) :: (C0_0 ++ L) = L') := by
  unfold nflog_Log_Needs_f14 at hr
  refine callsTo_body (N := 36) Tryd.func14 (by kernel_rfl) (by kernel_rfl) (by kernel_rfl) ?_
  refine gk_pick [0, 1, 2, 3, 4, 5, 6] (K' := [(0, .pointer (some ⟨g0, 0, none⟩)), (1, .string a1), (2, .string a2), (3, .int .i64 a3), (4, .int .i64 a4), (5, .slice A5_0 a5.length n5_0), (6, .slice A6_0 a6.length n6_0)]) (by kernel_rfl) ?_
  refine gk_seq (by kernel_rfl) ?_
  refine gk_region (by kernel_rfl) ?_
  refine gl_pure 2 [0, 1, 2, 3, 4, 5, 6] (K' := [(0, .pointer (some ⟨g0, 0, none⟩)), (1, .string a1), (2, .string a2), (3, .int .i64 a3), (4, .int .i64 a4), (5, .slice A5_0 a5.length n5_0), (6, .slice A6_0 a6.length n6_0)]) (by kernel_rfl) ?_
  refine gl_atE (by kernel_rfl) ?_
  refine ge_seq ?_
  refine gk_seq (by kernel_rfl) ?_
  refine gk_seq (by kernel_rfl) ?_
  refine gk_region (by kernel_rfl) ?_
  refine gl_pure 2 [0, 1, 2, 3, 4, 5, 6, 19] (K' := [(0, .pointer (some ⟨g0, 0, none⟩)), (1, .string a1), (2, .string a2), (3, .int .i64 a3), (4, .int .i64 a4), (5, .slice A5_0 a5.length n5_0), (6, .slice A6_0 a6.length n6_0), (19, .bool false)]) (by kernel_rfl) ?_
  refine gl_atE (by kernel_rfl) ?_
  refine ge_seq ?_
  refine gk_cond (b := false) (by kernel_rfl) (by kernel_rfl) (fun h => by cases h) (fun _ => ?_)
  refine gk_skip (by kernel_rfl) ?_
  refine ge_seq ?_
  refine gk_seq (by kernel_rfl) ?_
  refine gk_region (by kernel_rfl) ?_
  refine gl_pure 3 [3, 4, 5, 6, 21, 22, 23] (K' := [(3, .int .i64 a3), (4, .int .i64 a4), (5, .slice A5_0 a5.length n5_0), (6, .slice A6_0 a6.length n6_0), (21, .pointer (some ⟨g0, 0, none⟩)), (22, .string a1), (23, .string a2)]) (by kernel_rfl) ?_
  obtain ⟨y1, hx2, hr⟩ := bind_some hr
  refine gl_call (by kernel_rfl) (nflog_Log_Find_f13_walk (r := y1) (g0 := g0) (T0 := T0) (A0_0 := A0_0) (c0_0 := c0_0) (C0_0 := C0_0) (a0 := a0) hO0_0 hx2 _) ?_
  rintro v I3 L4 hI5 ⟨A6, c7, A8, c9, hf10, hf11, rfl, rfl⟩
  refine gl_pure 3 [3, 4, 5, 6, 25, 26] (K' := [(3, .int .i64 a3), (4, .int .i64 a4), (5, .slice A5_0 a5.length n5_0), (6, .slice A6_0 a6.length n6_0), (25, .agg #[.string y1.1.f0, .string y1.1.f1, .int .i64 y1.1.f2, .slice A6 y1.1.f3.length c7, .slice A8 y1.1.f4.length c9]), (26, .bool y1.2)]) (by kernel_rfl) ?_
  refine gl_alloc (T' := 24) (cs := #[.string (⟨#[]⟩ : ByteArray), .string (⟨#[]⟩ : ByteArray), .int .i64 0, .slice none 0 0, .slice none 0 0]) (by kernel_rfl) (by kernel_rfl) (by kernel_rfl) (fun g12 => ?_)
  refine gl_storeB (T' := 24) (xp := (.tmp 16)) (xv := (.tmp 25)) (v := .agg #[.string y1.1.f0, .string y1.1.f1, .int .i64 y1.1.f2, .slice A6 y1.1.f3.length c7, .slice A8 y1.1.f4.length c9]) (g := g12) (off := 0) (cs := #[.string (⟨#[]⟩ : ByteArray), .string (⟨#[]⟩ : ByteArray), .int .i64 0, .slice none 0 0, .slice none 0 0]) (cs' := #[.string y1.1.f0, .string y1.1.f1, .int .i64 y1.1.f2, .slice A6 y1.1.f3.length c7, .slice A8 y1.1.f4.length c9]) (by kernel_rfl) (by kernel_rfl) (by kernel_rfl) (by kernel_rfl) (by kernel_rfl) (Upd.set _ _ _ _) ?_ (by kernel_rfl)
  refine gl_pure 1 [3, 4, 5, 6, 16, 17] (K' := [(3, .int .i64 a3), (4, .int .i64 a4), (5, .slice A5_0 a5.length n5_0), (6, .slice A6_0 a6.length n6_0), (16, .pointer (some ⟨g12, 0, none⟩)), (17, .bool y1.2)]) (by kernel_rfl) ?_
  refine gl_atE (by kernel_rfl) ?_
  refine ge_seq ?_
  refine gk_seq (by kernel_rfl) ?_
  refine gk_region (by kernel_rfl) ?_
  refine gl_loadB (T' := 24) (xp := (.tmp 16)) (v := .agg #[.string y1.1.f0, .string y1.1.f1, .int .i64 y1.1.f2, .slice A6 y1.1.f3.length c7, .slice A8 y1.1.f4.length c9]) (g := g12) (off := 0) (cs := #[.string y1.1.f0, .string y1.1.f1, .int .i64 y1.1.f2, .slice A6 y1.1.f3.length c7, .slice A8 y1.1.f4.length c9]) (e := 24) (fz := (0, 0)) (by kernel_rfl) (by kernel_rfl) (by kernel_rfl) List.mem_cons_self (by kernel_rfl) ?_
  refine gl_pure 5 [27, 28, 29, 30, 31, 32] (K' := [(27, .agg #[.string y1.1.f0, .string y1.1.f1, .int .i64 y1.1.f2, .slice A6 y1.1.f3.length c7, .slice A8 y1.1.f4.length c9]), (28, .bool y1.2), (29, .int .i64 a3), (30, .int .i64 a4), (31, .slice A5_0 a5.length n5_0), (32, .slice A6_0 a6.length n6_0)]) (by kernel_rfl) ?_
  obtain ⟨y13, hx14, hr⟩ := bind_some hr
  refine gl_callQ (by kernel_rfl) (nflog_Needs_walk (r := y13) (hG.mono hI5) hf10 hf11 (hf5_0.mono hI5) (hf6_0.mono hI5) hx14 _) ?_
  refine gl_pure 4 [14, 15] (K' := [(14, .bool y13.1), (15, .int .i64 y13.2)]) (by kernel_rfl) ?_
  refine gl_atE (by kernel_rfl) ?_
  refine ge_seq ?_
  refine gk_reord (D := (g0, .cells #[.slice A0_0 a0.f0.f0.length c0_0] T0) :: (C0_0 ++ L)) (Reord.step1 (Upd.one _ (Upd.rm1 _ _)) (Reord.step (Upd.one _ (Upd.rmC _ _)) (Reord.skip (Reord.refl _)))) ?_
  refine gk_ret (by kernel_rfl) ?_
  obtain rfl := some_inj hr
  exact ge_result trivial (ResOk.tmp (by kernel_rfl) (ResOk.tmp (by kernel_rfl) ResOk.nil)) hI5 ⟨rfl, rfl⟩
/-! 18 nflog_Log_Len_f18 ('obj',) -/
noncomputable def nflog_Log_Len_f18 (a0 : S77) : Int :=
  (a0.f0.f0.length : Int)
theorem nflog_Log_Len_f18_walk {a0 : S77} {g0 : Nat} {T0 : TypeId} {A0_0 : Option Addr} {c0_0 : Nat} {C0_0 : Own} {I : Imm} {r : Int}  (hO0_0 : OwnS kS86 87 I A0_0 c0_0 a0.f0.f0 C0_0) (hr : nflog_Log_Len_f18 a0 = r) (L : Own) :
    CallsTo Tryd.prog 18 #[.pointer (some ⟨g0, 0, none⟩)] I ((g0, .cells #[.slice A0_0 a0.f0.f0.length c0_0] T0) :: (C0_0 ++ L)) (fun v I' L' => v = .int .i64 r ∧ (g0, .cells #[.slice A0_0 a0.f0.f0.length c0_0] T0) :: (C0_0 ++ L) = L') := by
  replace hr : some (nflog_Log_Len_f18 a0) = some r := congrArg some hr
  unfold nflog_Log_Len_f18 at hr
  refine callsTo_body (N := 11) Tryd.func18 (by kernel_rfl) (by kernel_rfl) (by kernel_rfl) ?_
  refine gk_pick [0] (K' := [(0, .pointer (some ⟨g0, 0, none⟩))]) (by kernel_rfl) ?_
  refine gk_seq (by kernel_rfl) ?_
  refine gk_region (by kernel_rfl) ?_
  refine gl_pure 1 [0] (K' := [(0, .pointer (some ⟨g0, 0, none⟩))]) (by kernel_rfl) ?_
  refine gl_atE (by kernel_rfl) ?_
  refine ge_seq ?_
  refine gk_seq (by kernel_rfl) ?_
  refine gk_seq (by kernel_rfl) ?_
  refine gk_region (by kernel_rfl) ?_
  refine gl_pure 2 [0, 4] (K' := [(0, .pointer (some ⟨g0, 0, none⟩)), (4, .bool false)]) (by kernel_rfl) ?_
  refine gl_atE (by kernel_rfl) ?_
  refine ge_seq ?_
  refine gk_cond (b := false) (by kernel_rfl) (by kernel_rfl) (fun h => by cases h) (fun _ => ?_)
  refine gk_skip (by kernel_rfl) ?_
  refine ge_seq ?_
  refine gk_seq (by kernel_rfl) ?_
  refine gk_region (by kernel_rfl) ?_
  refine gl_pure 4 [8] (K' := [(8, .pointer (some ⟨g0, 0, none⟩))]) (by kernel_rfl) ?_
  refine gl_loadB (T' := 74) (xp := (.tmp 8)) (v := .slice A0_0 a0.f0.f0.length c0_0) (g := g0) (off := 0) (cs := #[.slice A0_0 a0.f0.f0.length c0_0]) (e := T0) (fz := (0, 0)) (by kernel_rfl) (by kernel_rfl) (by kernel_rfl) List.mem_cons_self (by kernel_rfl) ?_
  refine gl_pure 2 [2] (K' := [(2, .int .i64 (a0.f0.f0.length : Int))]) (by kernel_rfl) ?_
  refine gl_atE (by kernel_rfl) ?_
  refine ge_seq ?_
  refine gk_ret (by kernel_rfl) ?_
  obtain rfl := some_inj hr
  exact ge_result trivial (ResOk.tmp (by kernel_rfl) ResOk.nil) (Imm.refl _) ⟨rfl, rfl⟩
set_option maxHeartbeats 1000000 in
theorem slices_Insert_83_walk {a0 : List S86} {A : Option Addr} {c : Nat} {C : Own} {i : Int} {y : S86} {gv : Nat} {vs : List Value} {I : Imm} {r : List S86} (hO : OwnS kS86 87 I A c a0 C) (hy : kS86.R I y vs) (hr : linsert a0 i y = some r) (L : Own) :
    CallsTo Tryd.prog 83 #[.slice A a0.length c, .int .i64 i, .slice (some ⟨gv, 0, none⟩) 1 1] I (C ++ ((gv, .cells vs.toArray 87) :: L)) (fun v I' L' => ∃ A' c' C', OwnS kS86 87 I' A' c' r C' ∧ v = .slice A' r.length c' ∧ C' ++ L = L') := by
  obtain ⟨h0, h1, hmx, rfl⟩ := linsert_some hr
  have hmx' : a0.length + 1 ≤ 2147483648 := hmx
  obtain ⟨q, rfl⟩ : ∃ q : Nat, i = q := ⟨i.toNat, by omega⟩
  have hq : q ≤ a0.length := by omega
  have hlc := hO.lenc
  have w1 : IntKind.wrap .i64 ((a0.length : Int) + 1) = (a0.length + 1 : Nat) := by rw [wrap64 (by omega) (by omega)]; omega
  have w2 : IntKind.wrap .i64 ((q : Int) + 1) = (q + 1 : Nat) := by rw [wrap64 (by omega) (by omega)]; omega
  have w3 : IntKind.wrap .i64 (((a0.length + 1 : Nat) : Int) - (q : Int)) = (a0.length + 1 - q : Nat) := by rw [wrap64 (by omega) (by omega)]; omega
  have hvl : vs.length = 7 := kS86.len hy
  have hvo : ∀ v ∈ vs, v.oneCell' = true := kS86.one hy
  refine callsTo_body (N := 95) Tryd.func83 (by kernel_rfl) (by kernel_rfl) (by kernel_rfl) ?_
  refine gk_pick [0, 1, 2] (K' := [(0, .slice A a0.length c), (1, .int .i64 q), (2, .slice (some ⟨gv, 0, none⟩) 1 1)]) (by kernel_rfl) ?_
  refine gk_sr (by kernel_rfl) (by kernel_rfl) ?_
  refine gl_pure 1 [0, 1, 2] (K' := [(0, .slice A a0.length c), (1, .int .i64 q), (2, .slice (some ⟨gv, 0, none⟩) 1 1)]) (by kernel_rfl) ?_
  refine gl_toC (by kernel_rfl) ?_
  refine gk_sr (by kernel_rfl) (by kernel_rfl) ?_
  refine gl_pure 2 [0, 1, 2, 10, 11] (K' := [(0, .slice A a0.length c), (1, .int .i64 q), (2, .slice (some ⟨gv, 0, none⟩) 1 1), (10, .slice A a0.length c), (11, .int .i64 q)]) (by kernel_rfl) ?_
  refine gl_sliceV (T' := 74) (e := 87) (n := 7) (A := A) (len := a0.length) (c := c) (a := q) (b := (a0.length : Int)) (xs := .tmp 10) (lo := some (.tmp 11)) (hi := none) (by omega) (by omega) (by omega) (by kernel_rfl) (by kernel_rfl) (by kernel_rfl) (by kernel_rfl) (by kernel_rfl) (by kernel_rfl) rfl ?_
  refine gl_pick [0, 1, 2] (K' := [(0, .slice A a0.length c), (1, .int .i64 q), (2, .slice (some ⟨gv, 0, none⟩) 1 1)]) (by kernel_rfl) ?_
  refine gl_toC (by kernel_rfl) ?_
  refine gk_sr (by kernel_rfl) (by kernel_rfl) ?_
  refine gl_pure 3 [0, 1, 2, 7] (K' := [(0, .slice A a0.length c), (1, .int .i64 q), (2, .slice (some ⟨gv, 0, none⟩) 1 1), (7, .int .i64 1)]) (by kernel_rfl) ?_
  refine gl_toC (by kernel_rfl) ?_
  refine gk_seq (by kernel_rfl) ?_
  refine gk_sr (by kernel_rfl) (by kernel_rfl) ?_
  refine gl_pure 2 [0, 1, 2, 7, 16] (K' := [(0, .slice A a0.length c), (1, .int .i64 q), (2, .slice (some ⟨gv, 0, none⟩) 1 1), (7, .int .i64 1), (16, .bool false)]) (by kernel_rfl) ?_
  refine gl_toC (by kernel_rfl) ?_
  refine gk_cond (b := false) (by kernel_rfl) (by kernel_rfl) (fun h => by cases h) (fun _ => ?_)
  refine gk_skip (by kernel_rfl) ?_
  refine ge_seq ?_
  refine gk_sr (by kernel_rfl) (by kernel_rfl) ?_
  refine gl_pure 3 [0, 1, 2, 7, 8] (K' := [(0, .slice A a0.length c), (1, .int .i64 q), (2, .slice (some ⟨gv, 0, none⟩) 1 1), (7, .int .i64 1), (8, .int .i64 a0.length)]) (by kernel_rfl) ?_
  refine gl_toC (by kernel_rfl) ?_
  refine gk_seq (by kernel_rfl) ?_
  refine gk_sr (by kernel_rfl) (by kernel_rfl) ?_
  refine gl_pure 3 [0, 1, 2, 7, 8, 22] (K' := [(0, .slice A a0.length c), (1, .int .i64 q), (2, .slice (some ⟨gv, 0, none⟩) 1 1), (7, .int .i64 1), (8, .int .i64 a0.length), (22, .bool ((q : Int) == (a0.length : Int)))]) (by kernel_rfl) ?_
  refine gl_toC (by kernel_rfl) ?_
  have hrow1 : RowAt kS86 I [y] (fun j => vs[j]?) := by have := row_cons hy (row_nil kS86 I); simpa using this
  have hlit : OwnS kS86 87 I (some ⟨gv, 0, none⟩) 1 [y] [(gv, .cells vs.toArray 87)] := OwnS.lit (by simpa using hrow1) rfl (by simp [hvl]; rfl) rfl
  refine gk_cond (b := ((q : Int) == (a0.length : Int))) (by kernel_rfl) (by kernel_rfl) (fun hc => ?_) (fun hc => ?_)
  · have hqe : q = a0.length := by have := eq_of_beq hc; omega
    have hz : app a0 [y] = some (a0 ++ [y]) := by unfold app maxLen'; rw [if_pos (by simp; omega)]
    have hres : a0.take q ++ y :: a0.drop q = a0 ++ [y] := by rw [hqe]; simp
    refine gk_sr (by kernel_rfl) (by kernel_rfl) ?_
    refine gl_pure 2 [23, 24] (K' := [(23, .slice A a0.length c), (24, .slice (some ⟨gv, 0, none⟩) 1 1)]) (by kernel_rfl) ?_
    refine gl_append (xv := .slice (some ⟨gv, 0, none⟩) 1 1) (d := kS86) (t := 74) (tx := 74) (e := 87) (s := .tmp 23) (x := .tmp 24) (xs := a0) (fun X => X ++ ((gv, .cells vs.toArray 87) :: L)) hz (by kernel_rfl) (by kernel_rfl) (by kernel_rfl) (by kernel_rfl) (by kernel_rfl) (by kernel_rfl) (fun X => Upd.head _ X _) hO (SrcOk.slice (c := 1) (e := 87) (n := 7) (OwnS.rd hlit (Upd.app _ (Upd.head _ _ _))) (by kernel_rfl)) (fun A' c' C' hO' => ?_)
    refine gl_pure 1 [6] (K' := [(6, .slice A' (a0 ++ [y]).length c')]) (by kernel_rfl) ?_
    refine gl_reord (D := C' ++ L) (Reord.step (Upd.rmC _ _) (Reord.skip (Reord.refl _))) ?_
    refine gl_toC (by kernel_rfl) ?_
    refine gk_ret (by kernel_rfl) ?_
    repeat (refine ge_seq_ret ?_)
    exact ge_result trivial (ResOk.tmp (by kernel_rfl) ResOk.nil) (Imm.refl _) ⟨A', c', C', by rw [Int.toNat_natCast, hres]; exact hO', by rw [Int.toNat_natCast, hres]; rfl, rfl⟩
  have hne : ¬ ((q : Int) = (a0.length : Int)) := by simpa using hc
  have hlt : q < a0.length := by omega
  rcases hO with ⟨rfl, _, _⟩ | ⟨g, cells, fz, rfl, rfl, hfz, hlc', hcs, hrow, _⟩
  · simp at hlt
  have hn : kS86.n = 7 := rfl
  rw [hn] at hcs
  refine gk_skip (by kernel_rfl) ?_
  refine ge_seq ?_
  refine gk_seq (by kernel_rfl) ?_
  refine gk_sr (by kernel_rfl) (by kernel_rfl) ?_
  refine gl_pure 6 [0, 1, 2, 7, 8, 31] (K' := [(0, .slice (some ⟨g, 0, none⟩) a0.length c), (1, .int .i64 q), (2, .slice (some ⟨gv, 0, none⟩) 1 1), (7, .int .i64 1), (8, .int .i64 a0.length), (31, .bool (decide (IntKind.wrap .i64 ((a0.length : Int) + 1) > (c : Int))))]) (by kernel_rfl) ?_
  refine gl_toC (by kernel_rfl) ?_
  refine gk_cond (b := decide (IntKind.wrap .i64 ((a0.length : Int) + 1) > (c : Int))) (by kernel_rfl) (by kernel_rfl) (fun hc => ?_) (fun hc => ?_)
  · -- there is no room
    have hgt : c < a0.length + 1 := by have := of_decide_eq_true hc; rw [w1] at this; omega
    refine gk_sr (by kernel_rfl) (by kernel_rfl) ?_
    refine gl_pure 2 [0, 1, 2, 7, 8, 32, 33] (K' := [(0, .slice (some ⟨g, 0, none⟩) a0.length c), (1, .int .i64 q), (2, .slice (some ⟨gv, 0, none⟩) 1 1), (7, .int .i64 1), (8, .int .i64 a0.length), (32, .slice (some ⟨g, 0, none⟩) a0.length c), (33, .int .i64 q)]) (by kernel_rfl) ?_
    refine gl_sliceV (T' := 74) (e := 87) (n := 7) (A := some ⟨g, 0, none⟩) (len := a0.length) (c := c) (a := 0) (b := q) (xs := .tmp 32) (lo := none) (hi := some (.tmp 33)) (by omega) (by omega) (by omega) (by kernel_rfl) (by kernel_rfl) (by kernel_rfl) (by kernel_rfl) (by kernel_rfl) (by kernel_rfl) (v := .slice (some ⟨g, 0, none⟩) q c) (by rw [show ((0 : Int).toNat) = 0 from rfl, head_eq (by omega)]; simp) ?_
    refine gl_pure 5 [0, 1, 2, 7, 34, 39] (K' := [(0, .slice (some ⟨g, 0, none⟩) a0.length c), (1, .int .i64 q), (2, .slice (some ⟨gv, 0, none⟩) 1 1), (7, .int .i64 1), (34, .slice (some ⟨g, 0, none⟩) q c), (39, .int .i64 (IntKind.wrap .i64 (IntKind.wrap .i64 ((a0.length : Int) + 1) - (q : Int))))]) (by kernel_rfl) ?_
    rw [w1, w3]
    refine gl_appendZ (g := g) (i := q) (cnt := a0.length + 1 - q) (c := c) (size := 7) (t := 74) (tx := 3) (e := 87) (s := .tmp 34) (x := .tmp 39) (cells := cells) (e' := 87) (fz := fz) (kx := .i64) (by kernel_rfl) (by kernel_rfl) (by kernel_rfl) (by kernel_rfl) (by kernel_rfl) (by kernel_rfl) (by kernel_rfl) (by omega) (by omega) (by unfold maxLen'; omega) List.mem_cons_self (by rw [hcs]; exact Nat.mul_le_mul_right _ (by omega)) (fun g2 cells2 c2 hc2 hs2 heq => ?_)
    have e9 : q + (a0.length + 1 - q) = a0.length + 1 := by omega
    rw [e9] at hc2 ⊢
    refine gl_pure 1 [0, 1, 2, 7, 9] (K' := [(0, .slice (some ⟨g, 0, none⟩) a0.length c), (1, .int .i64 q), (2, .slice (some ⟨gv, 0, none⟩) 1 1), (7, .int .i64 1), (9, .slice (some ⟨g2, 0, none⟩) (a0.length + 1) c2)]) (by kernel_rfl) ?_
    refine gl_toC (by kernel_rfl) ?_
    refine gk_sr (by kernel_rfl) (by kernel_rfl) ?_
    refine gl_pure 2 [0, 1, 2, 7, 9, 41, 42] (K' := [(0, .slice (some ⟨g, 0, none⟩) a0.length c), (1, .int .i64 q), (2, .slice (some ⟨gv, 0, none⟩) 1 1), (7, .int .i64 1), (9, .slice (some ⟨g2, 0, none⟩) (a0.length + 1) c2), (41, .slice (some ⟨g2, 0, none⟩) (a0.length + 1) c2), (42, .int .i64 q)]) (by kernel_rfl) ?_
    refine gl_sliceV (T' := 74) (e := 87) (n := 7) (A := some ⟨g2, 0, none⟩) (len := a0.length + 1) (c := c2) (a := q) (b := ((a0.length + 1 : Nat) : Int)) (xs := .tmp 41) (lo := some (.tmp 42)) (hi := none) (by omega) (by omega) (by omega) (by kernel_rfl) (by kernel_rfl) (by kernel_rfl) (by kernel_rfl) (by kernel_rfl) (by kernel_rfl) (v := .slice (some ⟨g2, q * 7, none⟩) (a0.length + 1 - q) (c2 - q)) (by rw [Int.toNat_natCast, Int.toNat_natCast, head_eq (by omega)]) ?_
    refine gl_pure 1 [0, 1, 7, 9, 43, 44] (K' := [(0, .slice (some ⟨g, 0, none⟩) a0.length c), (1, .int .i64 q), (7, .int .i64 1), (9, .slice (some ⟨g2, 0, none⟩) (a0.length + 1) c2), (43, .slice (some ⟨g2, q * 7, none⟩) (a0.length + 1 - q) (c2 - q)), (44, .slice (some ⟨gv, 0, none⟩) 1 1)]) (by kernel_rfl) ?_
    have hfit1 : q * 7 + vs.length ≤ cells2.size := by
      rw [hs2, hvl]
      have : (q + 1) * 7 ≤ c2 * 7 := Nat.mul_le_mul_right _ (by omega)
      omega
    refine gl_copyB (g := g2) (off := q * 7) (dLen := a0.length + 1 - q) (dCap := c2 - q) (sLen := 1) (m := 1) (size := 7) (tD := 74) (tS := 74) (e := 87) (sv := .slice (some ⟨gv, 0, none⟩) 1 1) (dx := .tmp 43) (sx := .tmp 44) (cells := cells2) (e' := 87) (fz := (0, 0)) (l := vs) (by kernel_rfl) (by kernel_rfl) (by kernel_rfl) (by kernel_rfl) (by kernel_rfl) (fun W => rfl) (Nat.min_eq_left (by omega)) (fun W hW => run_firstCells_some W 7 1 ⟨gv, 0, none⟩ 1 1 vs (by rw [hvl]) (fun j v hj => by
      have hm : W.heap[gv]? = some (.cells vs.toArray 87) := hW.mem (List.mem_cons_of_mem _ (List.mem_cons_of_mem _ List.mem_cons_self))
      have hadd : (⟨gv, 0, none⟩ : Addr).add j = ⟨gv, j, none⟩ := by unfold Addr.add; split <;> simp_all
      rw [hadd]; simp only [World.cell?, hm]; simpa using hj)) (Upd.set _ _ _ _) (FreeOf.zero _) hfit1 hvo ?_
    refine gl_pick [0, 1, 7, 9] (K' := [(0, .slice (some ⟨g, 0, none⟩) a0.length c), (1, .int .i64 q), (7, .int .i64 1), (9, .slice (some ⟨g2, 0, none⟩) (a0.length + 1) c2)]) (by kernel_rfl) ?_
    refine gl_toC (by kernel_rfl) ?_
    refine gk_seq (by kernel_rfl) ?_
    refine gk_draw 8 [(0, true), (1, true), (2, true), (3, true), (4, true), (5, true), (6, true), (7, true)] [] (fun p hp => by cases hp) (by kernel_rfl) (by kernel_rfl) (by kernel_rfl) ?_ (by kernel_rfl)
    refine gd_pure 4 [0, 1, 9, 46, 49] (K' := [(0, .slice (some ⟨g, 0, none⟩) a0.length c), (1, .int .i64 q), (9, .slice (some ⟨g2, 0, none⟩) (a0.length + 1) c2), (46, .slice (some ⟨g2, 0, none⟩) (a0.length + 1) c2), (49, .int .i64 (IntKind.wrap .i64 ((q : Int) + 1)))]) (s' := [(4, true), (5, true), (6, true), (7, true)]) (CC.refl (fun p hp => by cases hp)) (by kernel_rfl) ?_
    rw [w2]
    refine gd_q (v := .slice (some ⟨g2, (q + 1) * 7, none⟩) (a0.length - q) (c2 - (q + 1))) (by kernel_rfl) (by kernel_rfl) (CC.refl (fun p hp => by cases hp)) (fun I' L' T hC kk => gl_sliceV (T' := 74) (e := 87) (n := 7) (A := some ⟨g2, 0, none⟩) (len := a0.length + 1) (c := c2) (a := ((q + 1 : Nat) : Int)) (b := ((a0.length + 1 : Nat) : Int)) (xs := .tmp 46) (lo := some (.tmp 49)) (hi := none) (by omega) (by omega) (by omega) (by kernel_rfl) (by kernel_rfl) (by kernel_rfl) (by kernel_rfl) (by kernel_rfl) (by kernel_rfl) (by rw [Int.toNat_natCast, Int.toNat_natCast, head_eq (by omega), show a0.length + 1 - (q + 1) = a0.length - q from by omega]) kk) ?_
    refine gd_pure 2 [9, 50, 51, 52] (K' := [(9, .slice (some ⟨g2, 0, none⟩) (a0.length + 1) c2), (50, .slice (some ⟨g2, (q + 1) * 7, none⟩) (a0.length - q) (c2 - (q + 1))), (51, .slice (some ⟨g, 0, none⟩) a0.length c), (52, .int .i64 q)]) (s' := [(7, true)]) (CC.refl (fun p hp => by cases hp)) (by kernel_rfl) ?_
    refine gd_q (v := .slice (some ⟨g, q * 7, none⟩) (a0.length - q) (c - q)) (by kernel_rfl) (by kernel_rfl) (CC.refl (fun p hp => by cases hp)) (fun I' L' T hC kk => gl_sliceV (T' := 74) (e := 87) (n := 7) (A := some ⟨g, 0, none⟩) (len := a0.length) (c := c) (a := q) (b := (a0.length : Int)) (xs := .tmp 51) (lo := some (.tmp 52)) (hi := none) (by omega) (by omega) (by omega) (by kernel_rfl) (by kernel_rfl) (by kernel_rfl) (by kernel_rfl) (by kernel_rfl) (by kernel_rfl) (by rw [Int.toNat_natCast, Int.toNat_natCast, head_eq (by omega)]) kk) ?_
    refine gd_done ?_
    have hll : ((cells.toList.drop (q * 7)).take ((a0.length - q) * 7)).length = (a0.length - q) * 7 := by
      rw [List.length_take, List.length_drop, Array.length_toList (xs := cells), hcs]
      have e1 : (a0.length - q) * 7 + q * 7 = a0.length * 7 := by rw [← Nat.add_mul]; congr 1; omega
      have e2 := Nat.mul_le_mul_right 7 hlc'
      omega
    have hlg : ∀ j, j < (a0.length - q) * 7 → ((cells.toList.drop (q * 7)).take ((a0.length - q) * 7))[j]? = cells[q * 7 + j]? := fun j hj => by
      rw [List.getElem?_take, if_pos hj, List.getElem?_drop, Array.getElem?_toList]
    have hone : ∀ v ∈ (cells.toList.drop (q * 7)).take ((a0.length - q) * 7), v.oneCell' = true := row_one hrow hcs hlc' hn
    have hfit2 : (q + 1) * 7 + ((cells.toList.drop (q * 7)).take ((a0.length - q) * 7)).length ≤ (putSeg cells2 (q * 7) vs).size := by
      rw [hll, putSeg_size, hs2]
      have e1 : (q + 1) * 7 + (a0.length - q) * 7 = (a0.length + 1) * 7 := by rw [← Nat.add_mul]; congr 1; omega
      have e2 := Nat.mul_le_mul_right 7 hc2
      omega
    refine gl_copyB (g := g2) (off := (q + 1) * 7) (dLen := a0.length - q) (dCap := c2 - (q + 1)) (sLen := a0.length - q) (m := a0.length - q) (size := 7) (tD := 74) (tS := 74) (e := 87) (sv := .slice (some ⟨g, q * 7, none⟩) (a0.length - q) (c - q)) (dx := .tmp 50) (sx := .tmp 53) (cells := putSeg cells2 (q * 7) vs) (e' := 87) (fz := (0, 0)) (l := (cells.toList.drop (q * 7)).take ((a0.length - q) * 7)) (by kernel_rfl) (by kernel_rfl) (by kernel_rfl) (by kernel_rfl) (by kernel_rfl) (fun W => rfl) (Nat.min_self _) (fun W hW => run_firstCells_some W 7 (a0.length - q) ⟨g, q * 7, none⟩ _ _ _ hll (fun j v hj => by
      have hm : W.heap[g]? = some (.cells cells 87 fz) := hW.mem (List.mem_cons_of_mem _ List.mem_cons_self)
      have hjl : j < (a0.length - q) * 7 := by rw [← hll]; exact (List.getElem?_eq_some_iff.1 hj).1
      rw [hlg j hjl] at hj
      have hadd : (⟨g, q * 7, none⟩ : Addr).add j = ⟨g, q * 7 + j, none⟩ := by
        unfold Addr.add; split
        · rename_i h; rw [h]; rfl
        · rfl
      rw [hadd]; simp only [World.cell?, hm]; simpa using hj)) (Upd.set _ _ _ _) (FreeOf.zero _) hfit2 hone ?_
    refine gl_pick [9] (K' := [(9, .slice (some ⟨g2, 0, none⟩) (a0.length + 1) c2)]) (by kernel_rfl) ?_
    refine gl_atE (by kernel_rfl) ?_
    refine ge_seq ?_
    refine gk_sr (by kernel_rfl) (by kernel_rfl) ?_
    refine gl_pure 2 [6] (K' := [(6, .slice (some ⟨g2, 0, none⟩) (a0.length + 1) c2)]) (by kernel_rfl) ?_
    refine gl_reord (D := [(g2, .cells (putSeg (putSeg cells2 (q * 7) vs) ((q + 1) * 7) ((cells.toList.drop (q * 7)).take ((a0.length - q) * 7))) 87)] ++ L) (Reord.step1 (Upd.rm1 _ _) (Reord.skip (Reord.skip (Reord.refl _)))) ?_
    refine gl_toC (by kernel_rfl) ?_
    refine gk_ret (by kernel_rfl) ?_
    repeat (refine ge_seq_ret ?_)
    have hrl : (a0.take q ++ y :: a0.drop q).length = a0.length + 1 := by simp; omega
    refine ge_result trivial (ResOk.tmp (by kernel_rfl) ResOk.nil) (Imm.refl _) ⟨some ⟨g2, 0, none⟩, c2, _, .inr ⟨g2, _, (0, 0), rfl, rfl, FreeOf.zero _, by rw [Int.toNat_natCast, hrl]; exact hc2, by rw [putSeg_size, putSeg_size, hs2, hn], ?_, by rw [Int.toNat_natCast, hrl]; exact hmx⟩, by rw [Int.toNat_natCast, hrl]; rfl, rfl⟩
    refine row_insert hrow hy (by simpa using hq) (fun j hj => ?_) (fun j hj => ?_) (fun j hj => ?_)
    all_goals rw [hn, Int.toNat_natCast] at *
    · rw [putSeg_get _ _ _ hfit2, if_neg (by omega), putSeg_get _ _ _ hfit1, if_neg (by omega)]; exact heq j hj
    · rw [putSeg_get _ _ _ hfit2, if_neg (by omega), putSeg_get _ _ _ hfit1, if_pos (by omega)]; congr 1; omega
    · rw [putSeg_get _ _ _ hfit2, if_pos (by rw [hll]; omega), show (q + 1) * 7 + j - (q + 1) * 7 = j from by omega]; exact hlg j hj
  · -- there is room
    have hgt : a0.length + 1 ≤ c := by have := of_decide_eq_false hc; rw [w1] at this; omega
    refine gk_skip (by kernel_rfl) ?_
    refine ge_seq ?_
    refine gk_sr (by kernel_rfl) (by kernel_rfl) ?_
    refine gl_pure 4 [1, 2, 7, 8, 56, 59] (K' := [(1, .int .i64 q), (2, .slice (some ⟨gv, 0, none⟩) 1 1), (7, .int .i64 1), (8, .int .i64 a0.length), (56, .slice (some ⟨g, 0, none⟩) a0.length c), (59, .int .i64 (IntKind.wrap .i64 ((a0.length : Int) + 1)))]) (by kernel_rfl) ?_
    rw [w1]
    refine gl_sliceV (T' := 74) (e := 87) (n := 7) (A := some ⟨g, 0, none⟩) (len := a0.length) (c := c) (a := 0) (b := ((a0.length + 1 : Nat) : Int)) (xs := .tmp 56) (lo := none) (hi := some (.tmp 59)) (by omega) (by omega) (by omega) (by kernel_rfl) (by kernel_rfl) (by kernel_rfl) (by kernel_rfl) (by kernel_rfl) (by kernel_rfl) (v := .slice (some ⟨g, 0, none⟩) (a0.length + 1) c) (by rw [show ((0 : Int).toNat) = 0 from rfl, head_eq (by omega)]; simp) ?_
    refine gl_pure 1 [0, 1, 2, 7, 8] (K' := [(0, .slice (some ⟨g, 0, none⟩) (a0.length + 1) c), (1, .int .i64 q), (2, .slice (some ⟨gv, 0, none⟩) 1 1), (7, .int .i64 1), (8, .int .i64 a0.length)]) (by kernel_rfl) ?_
    refine gl_toC (by kernel_rfl) ?_
    refine gk_seq (by kernel_rfl) ?_
    refine gk_sr (by kernel_rfl) (by kernel_rfl) ?_
    refine gl_pure 5 [0, 1, 2, 7, 61, 62, 65] (K' := [(0, .slice (some ⟨g, 0, none⟩) (a0.length + 1) c), (1, .int .i64 q), (2, .slice (some ⟨gv, 0, none⟩) 1 1), (7, .int .i64 1), (61, .slice (some ⟨gv, 0, none⟩) 1 1), (62, .slice (some ⟨g, 0, none⟩) (a0.length + 1) c), (65, .int .i64 (IntKind.wrap .i64 ((q : Int) + 1)))]) (by kernel_rfl) ?_
    rw [w2]
    refine gl_sliceV (T' := 74) (e := 87) (n := 7) (A := some ⟨g, 0, none⟩) (len := a0.length + 1) (c := c) (a := ((q + 1 : Nat) : Int)) (b := ((a0.length + 1 : Nat) : Int)) (xs := .tmp 62) (lo := some (.tmp 65)) (hi := none) (by omega) (by omega) (by omega) (by kernel_rfl) (by kernel_rfl) (by kernel_rfl) (by kernel_rfl) (by kernel_rfl) (by kernel_rfl) (v := .slice (some ⟨g, (q + 1) * 7, none⟩) (a0.length - q) (c - (q + 1))) (by rw [Int.toNat_natCast, Int.toNat_natCast, head_eq (by omega), show a0.length + 1 - (q + 1) = a0.length - q from by omega]) ?_
    refine gl_have (φ := gv ≠ g) (fun W hW he => by
      subst he
      have := hW.nd
      simp at this) (fun hneg => ?_)
    refine gl_overlaps (f := 116) (tS := 74) (tR := 4) (e := 87) (size := 7) (g1 := gv) (g2 := g) (o1 := 0) (o2 := (q + 1) * 7) (la := 1) (ca := 1) (lb := a0.length - q) (cb := c - (q + 1)) (c1 := vs.toArray) (c2 := cells) (t1 := 87) (t2 := 87) (fz := fz) Tryd.func116 (by kernel_rfl) (by kernel_rfl) (by kernel_rfl) (by kernel_rfl) (by kernel_rfl) (by kernel_rfl) (by kernel_rfl) (List.mem_cons_of_mem _ List.mem_cons_self) List.mem_cons_self hneg (by rw [hcs]; omega) ?_
    refine gl_pure 1 [0, 1, 2, 7, 68] (K' := [(0, .slice (some ⟨g, 0, none⟩) (a0.length + 1) c), (1, .int .i64 q), (2, .slice (some ⟨gv, 0, none⟩) 1 1), (7, .int .i64 1), (68, .bool true)]) (by kernel_rfl) ?_
    refine gl_toC (by kernel_rfl) ?_
    refine gk_cond (b := true) (by kernel_rfl) (by kernel_rfl) (fun _ => ?_) (fun h => by cases h)
    refine gk_seq (by kernel_rfl) ?_
    refine gk_draw 8 [(0, true), (1, true), (2, true), (3, true), (4, true), (5, true), (6, true), (7, true)] [] (fun p hp => by cases hp) (by kernel_rfl) (by kernel_rfl) (by kernel_rfl) ?_ (by kernel_rfl)
    refine gd_pure 4 [0, 1, 2, 69, 72] (K' := [(0, .slice (some ⟨g, 0, none⟩) (a0.length + 1) c), (1, .int .i64 q), (2, .slice (some ⟨gv, 0, none⟩) 1 1), (69, .slice (some ⟨g, 0, none⟩) (a0.length + 1) c), (72, .int .i64 (IntKind.wrap .i64 ((q : Int) + 1)))]) (s' := [(4, true), (5, true), (6, true), (7, true)]) (CC.refl (fun p hp => by cases hp)) (by kernel_rfl) ?_
    rw [w2]
    refine gd_q (v := .slice (some ⟨g, (q + 1) * 7, none⟩) (a0.length - q) (c - (q + 1))) (by kernel_rfl) (by kernel_rfl) (CC.refl (fun p hp => by cases hp)) (fun I' L' T hC kk => gl_sliceV (T' := 74) (e := 87) (n := 7) (A := some ⟨g, 0, none⟩) (len := a0.length + 1) (c := c) (a := ((q + 1 : Nat) : Int)) (b := ((a0.length + 1 : Nat) : Int)) (xs := .tmp 69) (lo := some (.tmp 72)) (hi := none) (by omega) (by omega) (by omega) (by kernel_rfl) (by kernel_rfl) (by kernel_rfl) (by kernel_rfl) (by kernel_rfl) (by kernel_rfl) (by rw [Int.toNat_natCast, Int.toNat_natCast, head_eq (by omega), show a0.length + 1 - (q + 1) = a0.length - q from by omega]) kk) ?_
    refine gd_pure 2 [0, 1, 2, 73, 74, 75] (K' := [(0, .slice (some ⟨g, 0, none⟩) (a0.length + 1) c), (1, .int .i64 q), (2, .slice (some ⟨gv, 0, none⟩) 1 1), (73, .slice (some ⟨g, (q + 1) * 7, none⟩) (a0.length - q) (c - (q + 1))), (74, .slice (some ⟨g, 0, none⟩) (a0.length + 1) c), (75, .int .i64 q)]) (s' := [(7, true)]) (CC.refl (fun p hp => by cases hp)) (by kernel_rfl) ?_
    refine gd_q (v := .slice (some ⟨g, q * 7, none⟩) (a0.length + 1 - q) (c - q)) (by kernel_rfl) (by kernel_rfl) (CC.refl (fun p hp => by cases hp)) (fun I' L' T hC kk => gl_sliceV (T' := 74) (e := 87) (n := 7) (A := some ⟨g, 0, none⟩) (len := a0.length + 1) (c := c) (a := q) (b := ((a0.length + 1 : Nat) : Int)) (xs := .tmp 74) (lo := some (.tmp 75)) (hi := none) (by omega) (by omega) (by omega) (by kernel_rfl) (by kernel_rfl) (by kernel_rfl) (by kernel_rfl) (by kernel_rfl) (by kernel_rfl) (by rw [Int.toNat_natCast, Int.toNat_natCast, head_eq (by omega)]) kk) ?_
    refine gd_done ?_
    have hll : ((cells.toList.drop (q * 7)).take ((a0.length - q) * 7)).length = (a0.length - q) * 7 := by
      rw [List.length_take, List.length_drop, Array.length_toList (xs := cells), hcs]
      have e1 : (a0.length - q) * 7 + q * 7 = a0.length * 7 := by rw [← Nat.add_mul]; congr 1; omega
      have e2 := Nat.mul_le_mul_right 7 hlc'
      omega
    have hlg : ∀ j, j < (a0.length - q) * 7 → ((cells.toList.drop (q * 7)).take ((a0.length - q) * 7))[j]? = cells[q * 7 + j]? := fun j hj => by
      rw [List.getElem?_take, if_pos hj, List.getElem?_drop, Array.getElem?_toList]
    have hone : ∀ v ∈ (cells.toList.drop (q * 7)).take ((a0.length - q) * 7), v.oneCell' = true := row_one hrow hcs hlc' hn
    have hfit1 : (q + 1) * 7 + ((cells.toList.drop (q * 7)).take ((a0.length - q) * 7)).length ≤ cells.size := by
      rw [hll, hcs]
      have e1 : (q + 1) * 7 + (a0.length - q) * 7 = (a0.length + 1) * 7 := by rw [← Nat.add_mul]; congr 1; omega
      have e2 := Nat.mul_le_mul_right 7 hgt
      omega
    refine gl_copyB (g := g) (off := (q + 1) * 7) (dLen := a0.length - q) (dCap := c - (q + 1)) (sLen := a0.length + 1 - q) (m := a0.length - q) (size := 7) (tD := 74) (tS := 74) (e := 87) (sv := .slice (some ⟨g, q * 7, none⟩) (a0.length + 1 - q) (c - q)) (dx := .tmp 73) (sx := .tmp 76) (cells := cells) (e' := 87) (fz := fz) (l := (cells.toList.drop (q * 7)).take ((a0.length - q) * 7)) (by kernel_rfl) (by kernel_rfl) (by kernel_rfl) (by kernel_rfl) (by kernel_rfl) (fun W => rfl) (Nat.min_eq_right (by omega)) (fun W hW => run_firstCells_some W 7 (a0.length - q) ⟨g, q * 7, none⟩ _ _ _ hll (fun j v hj => by
      have hm : W.heap[g]? = some (.cells cells 87 fz) := hW.mem List.mem_cons_self
      have hjl : j < (a0.length - q) * 7 := by rw [← hll]; exact (List.getElem?_eq_some_iff.1 hj).1
      rw [hlg j hjl] at hj
      have hadd : (⟨g, q * 7, none⟩ : Addr).add j = ⟨g, q * 7 + j, none⟩ := by
        unfold Addr.add; split
        · rename_i h; rw [h]; rfl
        · rfl
      rw [hadd]; simp only [World.cell?, hm]; simpa using hj)) (Upd.set _ _ _ _) hfz hfit1 hone ?_
    refine gl_pick [0, 1, 2] (K' := [(0, .slice (some ⟨g, 0, none⟩) (a0.length + 1) c), (1, .int .i64 q), (2, .slice (some ⟨gv, 0, none⟩) 1 1)]) (by kernel_rfl) ?_
    refine gl_atE (by kernel_rfl) ?_
    refine ge_seq ?_
    refine gk_sr (by kernel_rfl) (by kernel_rfl) ?_
    refine gl_pure 2 [0, 2, 78, 79] (K' := [(0, .slice (some ⟨g, 0, none⟩) (a0.length + 1) c), (2, .slice (some ⟨gv, 0, none⟩) 1 1), (78, .slice (some ⟨g, 0, none⟩) (a0.length + 1) c), (79, .int .i64 q)]) (by kernel_rfl) ?_
    refine gl_sliceV (T' := 74) (e := 87) (n := 7) (A := some ⟨g, 0, none⟩) (len := a0.length + 1) (c := c) (a := q) (b := ((a0.length + 1 : Nat) : Int)) (xs := .tmp 78) (lo := some (.tmp 79)) (hi := none) (by omega) (by omega) (by omega) (by kernel_rfl) (by kernel_rfl) (by kernel_rfl) (by kernel_rfl) (by kernel_rfl) (by kernel_rfl) (v := .slice (some ⟨g, q * 7, none⟩) (a0.length + 1 - q) (c - q)) (by rw [Int.toNat_natCast, Int.toNat_natCast, head_eq (by omega)]) ?_
    refine gl_pure 1 [0, 80, 81] (K' := [(0, .slice (some ⟨g, 0, none⟩) (a0.length + 1) c), (80, .slice (some ⟨g, q * 7, none⟩) (a0.length + 1 - q) (c - q)), (81, .slice (some ⟨gv, 0, none⟩) 1 1)]) (by kernel_rfl) ?_
    have hfit2 : q * 7 + vs.length ≤ (putSeg cells ((q + 1) * 7) ((cells.toList.drop (q * 7)).take ((a0.length - q) * 7))).size := by
      rw [putSeg_size, hvl, hcs]
      have : (q + 1) * 7 ≤ c * 7 := Nat.mul_le_mul_right _ (by omega)
      omega
    refine gl_copyB (g := g) (off := q * 7) (dLen := a0.length + 1 - q) (dCap := c - q) (sLen := 1) (m := 1) (size := 7) (tD := 74) (tS := 74) (e := 87) (sv := .slice (some ⟨gv, 0, none⟩) 1 1) (dx := .tmp 80) (sx := .tmp 81) (cells := putSeg cells ((q + 1) * 7) ((cells.toList.drop (q * 7)).take ((a0.length - q) * 7))) (e' := 87) (fz := fz) (l := vs) (by kernel_rfl) (by kernel_rfl) (by kernel_rfl) (by kernel_rfl) (by kernel_rfl) (fun W => rfl) (Nat.min_eq_left (by omega)) (fun W hW => run_firstCells_some W 7 1 ⟨gv, 0, none⟩ 1 1 vs (by rw [hvl]) (fun j v hj => by
      have hm : W.heap[gv]? = some (.cells vs.toArray 87) := hW.mem (List.mem_cons_of_mem _ List.mem_cons_self)
      have hadd : (⟨gv, 0, none⟩ : Addr).add j = ⟨gv, j, none⟩ := by unfold Addr.add; split <;> simp_all
      rw [hadd]; simp only [World.cell?, hm]; simpa using hj)) (Upd.set _ _ _ _) (by rw [FreeOf, putSeg_size]; exact hfz) hfit2 hvo ?_
    refine gl_pick [0] (K' := [(0, .slice (some ⟨g, 0, none⟩) (a0.length + 1) c)]) (by kernel_rfl) ?_
    refine gl_toC (by kernel_rfl) ?_
    refine gk_sr (by kernel_rfl) (by kernel_rfl) ?_
    refine gl_pure 2 [6] (K' := [(6, .slice (some ⟨g, 0, none⟩) (a0.length + 1) c)]) (by kernel_rfl) ?_
    refine gl_reord (D := [(g, .cells (putSeg (putSeg cells ((q + 1) * 7) ((cells.toList.drop (q * 7)).take ((a0.length - q) * 7))) (q * 7) vs) 87 fz)] ++ L) (Reord.step1 (Upd.rm1 _ _) (Reord.skip (Reord.refl _))) ?_
    refine gl_toC (by kernel_rfl) ?_
    refine gk_ret (by kernel_rfl) ?_
    repeat (refine ge_seq_ret ?_)
    have hrl : (a0.take q ++ y :: a0.drop q).length = a0.length + 1 := by simp; omega
    refine ge_result trivial (ResOk.tmp (by kernel_rfl) ResOk.nil) (Imm.refl _) ⟨some ⟨g, 0, none⟩, c, _, .inr ⟨g, _, fz, rfl, rfl, by rw [FreeOf, putSeg_size, putSeg_size]; exact hfz, by rw [Int.toNat_natCast, hrl]; exact hgt, by rw [putSeg_size, putSeg_size, hcs, hn], ?_, by rw [Int.toNat_natCast, hrl]; exact hmx⟩, by rw [Int.toNat_natCast, hrl]; rfl, rfl⟩
    refine row_insert hrow hy (by simpa using hq) (fun j hj => ?_) (fun j hj => ?_) (fun j hj => ?_)
    all_goals rw [hn, Int.toNat_natCast] at *
    · rw [putSeg_get _ _ _ hfit2, if_neg (by omega), putSeg_get _ _ _ hfit1, if_neg (by omega)]
    · rw [putSeg_get _ _ _ hfit2, if_pos (by omega)]; congr 1; omega
    · rw [putSeg_get _ _ _ hfit2, if_neg (by omega), putSeg_get _ _ _ hfit1, if_pos (by rw [hll]; omega), show (q + 1) * 7 + j - (q + 1) * 7 = j from by omega]; exact hlg j hj

/-! 40 nflog_list_put ('obj', 'imm', 'imm') -/
noncomputable def nflog_list_put (a0 : S75) (a1 : S82) (a2 : S23) : Option S75 :=
  Option.bind (nflog_list_find a0 a1) fun (y3 : Int × Bool) =>
  bif y3.2 then
  (Option.bind (ix a0.f0 y3.1) fun (x9 : S86) =>
    some (⟨(lset a0.f0 y3.1 (⟨x9.f0, a2⟩ : S86))⟩ : S75))
  else
  (Option.bind (linsert a0.f0 y3.1 (⟨(⟨a1.f0, a1.f1⟩ : S82), (⟨a2.f0, a2.f1, a2.f2, a2.f3, a2.f4⟩ : S23)⟩ : S86)) fun (zs31 : List S86) =>
    some (⟨zs31⟩ : S75))
theorem nflog_list_put_walk {a0 : S75} {g0 : Nat} {T0 : TypeId} {A0_0 : Option Addr} {c0_0 : Nat} {C0_0 : Own} {a1 : S82} {a2 : S23} {A2_3 : Option Addr} {n2_3 : Nat} {A2_4 : Option Addr} {n2_4 : Nat} {I : Imm} {r : S75}  (hO0_0 : OwnS kS86 87 I A0_0 c0_0 a0.f0 C0_0)  (hf2_3 : RepS (Kd.sl kS79) I A2_3 n2_3 a2.f3) (hf2_4 : RepS (Kd.sl kS79) I A2_4 n2_4 a2.f4) (hr : nflog_list_put a0 a1 a2 = some r) (L : Own) :
    CallsTo Tryd.prog 40 #[.pointer (some ⟨g0, 0, none⟩), .agg #[.string a1.f0, .string a1.f1], .agg #[.string a2.f0, .string a2.f1, .int .i64 a2.f2, .slice A2_3 a2.f3.length n2_3, .slice A2_4 a2.f4.length n2_4]] I ((g0, .cells #[.slice A0_0 a0.f0.length c0_0] T0) :: (C0_0 ++ L)) (fun v I' L' => ∃ A0_0 c0_0 C0_0, OwnS kS86 87 I' A0_0 c0_0 r.f0 C0_0 ∧ v = .tuple #[] ∧ (g0, .cells #[.slice A0_0 r.f0.length c0_0] T0) :: (C0_0 ++ L) = L') := by
  unfold nflog_list_put at hr
  refine callsTo_body (N := 36) Tryd.func40 (by kernel_rfl) (by kernel_rfl) (by kernel_rfl) ?_
  refine gk_pick [0, 1, 2] (K' := [(0, .pointer (some ⟨g0, 0, none⟩)), (1, .agg #[.string a1.f0, .string a1.f1]), (2, .agg #[.string a2.f0, .string a2.f1, .int .i64 a2.f2, .slice A2_3 a2.f3.length n2_3, .slice A2_4 a2.f4.length n2_4])]) (by kernel_rfl) ?_
  refine gk_seq (by kernel_rfl) ?_
  refine gk_region (by kernel_rfl) ?_
  refine gl_box (T' := 83) (x := (.tmp 1)) (v := .agg #[.string a1.f0, .string a1.f1]) (cs := #[.string a1.f0, .string a1.f1]) (by kernel_rfl) (by kernel_rfl) (by kernel_rfl) (by kernel_rfl) (fun g1 => ?_)
  refine gl_box (T' := 24) (x := (.tmp 2)) (v := .agg #[.string a2.f0, .string a2.f1, .int .i64 a2.f2, .slice A2_3 a2.f3.length n2_3, .slice A2_4 a2.f4.length n2_4]) (cs := #[.string a2.f0, .string a2.f1, .int .i64 a2.f2, .slice A2_3 a2.f3.length n2_3, .slice A2_4 a2.f4.length n2_4]) (by kernel_rfl) (by kernel_rfl) (by kernel_rfl) (by kernel_rfl) (fun g2 => ?_)
  refine gl_atE (by kernel_rfl) ?_
  refine ge_seq ?_
  refine gk_seq (by kernel_rfl) ?_
  refine gk_region (by kernel_rfl) ?_
  refine gl_pure 1 [0, 4, 5, 9] (K' := [(0, .pointer (some ⟨g0, 0, none⟩)), (4, .pointer (some ⟨g1, 0, none⟩)), (5, .pointer (some ⟨g2, 0, none⟩)), (9, .pointer (some ⟨g0, 0, none⟩))]) (by kernel_rfl) ?_
  refine gl_loadB (T' := 83) (xp := (.tmp 4)) (v := .agg #[.string a1.f0, .string a1.f1]) (g := g1) (off := 0) (cs := #[.string a1.f0, .string a1.f1]) (e := 83) (fz := (0, 0)) (by kernel_rfl) (by kernel_rfl) (by kernel_rfl) (List.mem_cons_of_mem _ List.mem_cons_self) (by kernel_rfl) ?_
  obtain ⟨y3, hx4, hr⟩ := bind_some hr
  refine gl_reord (D := (g0, .cells #[.slice A0_0 a0.f0.length c0_0] T0) :: (C0_0 ++ ((g2, .cells #[.string a2.f0, .string a2.f1, .int .i64 a2.f2, .slice A2_3 a2.f3.length n2_3, .slice A2_4 a2.f4.length n2_4] 24) :: ((g1, .cells #[.string a1.f0, .string a1.f1] 83) :: L)))) (Reord.step1 (Upd.one _ (Upd.one _ (Upd.rm1 _ _))) (Reord.step (Upd.one _ (Upd.one _ (Upd.rmC _ _))) (Reord.step1 (Upd.rm1 _ _) (Reord.step1 (Upd.rm1 _ _) (Reord.refl _))))) ?_
  refine gl_call (by kernel_rfl) (nflog_list_find_walk (r := y3) (g0 := g0) (T0 := T0) (A0_0 := A0_0) (c0_0 := c0_0) (C0_0 := C0_0) (a0 := a0) hO0_0 hx4 _) ?_
  rintro v I5 L6 hI7 ⟨rfl, rfl⟩
  refine gl_pure 5 [0, 4, 5, 6, 7] (K' := [(0, .pointer (some ⟨g0, 0, none⟩)), (4, .pointer (some ⟨g1, 0, none⟩)), (5, .pointer (some ⟨g2, 0, none⟩)), (6, .int .i64 y3.1), (7, .bool y3.2)]) (by kernel_rfl) ?_
  refine gl_atE (by kernel_rfl) ?_
  refine ge_seq ?_
  refine gk_seq (by kernel_rfl) ?_
  refine gk_seq (by kernel_rfl) ?_
  refine gk_region (by kernel_rfl) ?_
  refine gl_pure 1 [0, 4, 5, 6, 14] (K' := [(0, .pointer (some ⟨g0, 0, none⟩)), (4, .pointer (some ⟨g1, 0, none⟩)), (5, .pointer (some ⟨g2, 0, none⟩)), (6, .int .i64 y3.1), (14, .bool y3.2)]) (by kernel_rfl) ?_
  refine gl_atE (by kernel_rfl) ?_
  refine ge_seq ?_
  refine gk_cond (b := y3.2) (by kernel_rfl) (by kernel_rfl) (fun hc8 => ?_) (fun hc8 => ?_)
  · have hr := cond_t hc8 hr
    refine gk_seq (by kernel_rfl) ?_
    refine gk_draw 8 [(0, true), (1, true), (2, true), (3, true), (4, true), (5, true), (6, false), (7, true)] [(g0, .cells #[.slice A0_0 a0.f0.length c0_0] T0), (g2, .cells #[.string a2.f0, .string a2.f1, .int .i64 a2.f2, .slice A2_3 a2.f3.length n2_3, .slice A2_4 a2.f4.length n2_4] 24), (g1, .cells #[.string a1.f0, .string a1.f1] 83)] (List.forall_mem_cons.2 ⟨List.mem_cons_self, (List.forall_mem_cons.2 ⟨(List.mem_cons_of_mem _ (List.mem_append_right _ List.mem_cons_self)), (List.forall_mem_cons.2 ⟨(List.mem_cons_of_mem _ (List.mem_append_right _ (List.mem_cons_of_mem _ List.mem_cons_self))), (fun p hp => by cases hp)⟩)⟩)⟩) (by kernel_rfl) (by kernel_rfl) (by kernel_rfl) ?_ (by kernel_rfl)
    refine gd_pure 3 [5, 6, 17] (K' := [(5, .pointer (some ⟨g2, 0, none⟩)), (6, .int .i64 y3.1), (17, .pointer (some ⟨g0, 0, none⟩))]) (s' := [(3, true), (4, true), (5, true), (6, false), (7, true)]) (CC.refl (List.forall_mem_cons.2 ⟨List.mem_cons_self, (List.forall_mem_cons.2 ⟨(List.mem_cons_of_mem _ (List.mem_append_right _ List.mem_cons_self)), (List.forall_mem_cons.2 ⟨(List.mem_cons_of_mem _ (List.mem_append_right _ (List.mem_cons_of_mem _ List.mem_cons_self))), (fun p hp => by cases hp)⟩)⟩)⟩)) (by kernel_rfl) ?_
    refine gd_q (v := .slice A0_0 a0.f0.length c0_0) (by kernel_rfl) (by kernel_rfl) (CC.refl (List.forall_mem_cons.2 ⟨List.mem_cons_self, (List.forall_mem_cons.2 ⟨(List.mem_cons_of_mem _ (List.mem_append_right _ List.mem_cons_self)), (List.forall_mem_cons.2 ⟨(List.mem_cons_of_mem _ (List.mem_append_right _ (List.mem_cons_of_mem _ List.mem_cons_self))), (fun p hp => by cases hp)⟩)⟩)⟩)) (fun I' L' T hC kk => gl_loadB (T' := 74) (xp := (.tmp 17)) (v := .slice A0_0 a0.f0.length c0_0) (g := g0) (off := 0) (cs := #[.slice A0_0 a0.f0.length c0_0]) (e := T0) (fz := (0, 0)) (by kernel_rfl) (by kernel_rfl) (by kernel_rfl) (hC.sub _ List.mem_cons_self) (by kernel_rfl) kk) ?_
    refine gd_pure 1 [5, 18, 19] (K' := [(5, .pointer (some ⟨g2, 0, none⟩)), (18, .slice A0_0 a0.f0.length c0_0), (19, .int .i64 y3.1)]) (s' := [(5, true), (6, false), (7, true)]) (CC.refl (List.forall_mem_cons.2 ⟨List.mem_cons_self, (List.forall_mem_cons.2 ⟨(List.mem_cons_of_mem _ (List.mem_append_right _ List.mem_cons_self)), (List.forall_mem_cons.2 ⟨(List.mem_cons_of_mem _ (List.mem_append_right _ (List.mem_cons_of_mem _ List.mem_cons_self))), (fun p hp => by cases hp)⟩)⟩)⟩)) (by kernel_rfl) ?_
    refine gd_q (v := .agg #[.string a2.f0, .string a2.f1, .int .i64 a2.f2, .slice A2_3 a2.f3.length n2_3, .slice A2_4 a2.f4.length n2_4]) (by kernel_rfl) (by kernel_rfl) (CC.refl (List.forall_mem_cons.2 ⟨List.mem_cons_self, (List.forall_mem_cons.2 ⟨(List.mem_cons_of_mem _ (List.mem_append_right _ List.mem_cons_self)), (List.forall_mem_cons.2 ⟨(List.mem_cons_of_mem _ (List.mem_append_right _ (List.mem_cons_of_mem _ List.mem_cons_self))), (fun p hp => by cases hp)⟩)⟩)⟩)) (fun I' L' T hC kk => gl_loadB (T' := 24) (xp := (.tmp 5)) (v := .agg #[.string a2.f0, .string a2.f1, .int .i64 a2.f2, .slice A2_3 a2.f3.length n2_3, .slice A2_4 a2.f4.length n2_4]) (g := g2) (off := 0) (cs := #[.string a2.f0, .string a2.f1, .int .i64 a2.f2, .slice A2_3 a2.f3.length n2_3, .slice A2_4 a2.f4.length n2_4]) (e := 24) (fz := (0, 0)) (by kernel_rfl) (by kernel_rfl) (by kernel_rfl) (hC.sub _ (List.mem_cons_of_mem _ List.mem_cons_self)) (by kernel_rfl) kk) ?_
    refine gd_one (by kernel_rfl) ?_
    obtain ⟨x9, hx10, hr⟩ := bind_some hr
    refine gl_indexAddrW (d := kS86) (c := c0_0) (T' := 74) (e := 87) (xs := (.tmp 18)) (xi := (.tmp 19)) (kd := .i64) hx10 (hO0_0.mono hI7) (Upd.one _ (Upd.selfC _ _)) (by kernel_rfl) (by kernel_rfl) (by kernel_rfl) (by kernel_rfl) (by kernel_rfl) (fun p11 cs12 hR13 hA14 hp23 => ?_)
    obtain ⟨A17, n18, A20, n21, hf19, hf22, rfl⟩ := kS86_open hR13
    refine gl_toD (by kernel_rfl) ⟨(Imm.refl _), (List.forall_mem_cons.2 ⟨List.mem_cons_self, (List.forall_mem_cons.2 ⟨(List.mem_cons_of_mem _ (List.mem_append_right _ List.mem_cons_self)), (List.forall_mem_cons.2 ⟨(List.mem_cons_of_mem _ (List.mem_append_right _ (List.mem_cons_of_mem _ List.mem_cons_self))), (fun p hp => by cases hp)⟩)⟩)⟩)⟩ ?_
    refine gd_pure 1 [20, 22] (K' := [(20, .agg #[.string a2.f0, .string a2.f1, .int .i64 a2.f2, .slice A2_3 a2.f3.length n2_3, .slice A2_4 a2.f4.length n2_4]), (22, .pointer (some (p11.add 2)))]) (s' := []) (CC.refl (List.forall_mem_cons.2 ⟨List.mem_cons_self, (List.forall_mem_cons.2 ⟨(List.mem_cons_of_mem _ (List.mem_append_right _ List.mem_cons_self)), (List.forall_mem_cons.2 ⟨(List.mem_cons_of_mem _ (List.mem_append_right _ (List.mem_cons_of_mem _ List.mem_cons_self))), (fun p hp => by cases hp)⟩)⟩)⟩)) (by kernel_rfl) ?_
    refine gd_done ?_
    have hl26 : a0.f0.length = (lset a0.f0 y3.1 (⟨x9.f0, a2⟩ : S86)).length := by simp [lset]
    refine gl_storeE (d := kS86) (T' := 24) (xp := (.tmp 22)) (xv := (.tmp 20)) (v := .agg #[.string a2.f0, .string a2.f1, .int .i64 a2.f2, .slice A2_3 a2.f3.length n2_3, .slice A2_4 a2.f4.length n2_4]) (off := 2) (y := (⟨x9.f0, a2⟩ : S86)) (fun X => (g0, .cells #[.slice A0_0 a0.f0.length c0_0] T0) :: (X ++ ((g2, .cells #[.string a2.f0, .string a2.f1, .int .i64 a2.f2, .slice A2_3 a2.f3.length n2_3, .slice A2_4 a2.f4.length n2_4] 24) :: ((g1, .cells #[.string a1.f0, .string a1.f1] 83) :: L)))) hx10 (hO0_0.mono hI7) (fun X => (Upd.one _ (Upd.head _ X _))) hp23 (by kernel_rfl) (by kernel_rfl) (by kernel_rfl) (by kernel_rfl) (by kernel_rfl) (by kernel_rfl) (fun cs h => by obtain ⟨A_5, c_5, A_6, c_6, h_5, h_6, rfl⟩ := kS86_open h; exact kS86_mk (x := (⟨x9.f0, a2⟩ : S86)) (hf2_3.mono hI7) (hf2_4.mono hI7)) (by kernel_rfl) (fun C24 hO25 => ?_)
    try rw [hl26]
    refine gl_atE (by kernel_rfl) ?_
    refine ge_seq ?_
    refine gk_reord (D := (g0, .cells #[.slice A0_0 (lset a0.f0 y3.1 (⟨x9.f0, a2⟩ : S86)).length c0_0] T0) :: (C24 ++ L)) (Reord.step1 (Upd.rm1 _ _) (Reord.step (Upd.rmC _ _) (Reord.skip (Reord.skip (Reord.refl _))))) ?_
    refine gk_ret (by kernel_rfl) ?_
    refine ge_seq_ret ?_
    obtain rfl := some_inj hr
    exact ge_result trivial ResOk.nil hI7 ⟨A0_0, c0_0, C24, hO25, rfl, rfl⟩
  · have hr := cond_f hc8 hr
    refine gk_skip (by kernel_rfl) ?_
    refine ge_seq ?_
    refine gk_draw 13 [(0, true), (1, true), (2, true), (3, true), (4, true), (5, true), (6, true), (7, true), (8, true), (9, false), (10, false), (11, true), (12, true)] [(g0, .cells #[.slice A0_0 a0.f0.length c0_0] T0), (g2, .cells #[.string a2.f0, .string a2.f1, .int .i64 a2.f2, .slice A2_3 a2.f3.length n2_3, .slice A2_4 a2.f4.length n2_4] 24), (g1, .cells #[.string a1.f0, .string a1.f1] 83)] (List.forall_mem_cons.2 ⟨List.mem_cons_self, (List.forall_mem_cons.2 ⟨(List.mem_cons_of_mem _ (List.mem_append_right _ List.mem_cons_self)), (List.forall_mem_cons.2 ⟨(List.mem_cons_of_mem _ (List.mem_append_right _ (List.mem_cons_of_mem _ List.mem_cons_self))), (fun p hp => by cases hp)⟩)⟩)⟩) (by kernel_rfl) (by kernel_rfl) (by kernel_rfl) ?_ (by kernel_rfl)
    refine gd_pure 4 [4, 5, 6, 23, 26] (K' := [(4, .pointer (some ⟨g1, 0, none⟩)), (5, .pointer (some ⟨g2, 0, none⟩)), (6, .int .i64 y3.1), (23, .pointer (some ⟨g0, 0, none⟩)), (26, .pointer (some ⟨g0, 0, none⟩))]) (s' := [(4, true), (5, true), (6, true), (7, true), (8, true), (9, false), (10, false), (11, true), (12, true)]) (CC.refl (List.forall_mem_cons.2 ⟨List.mem_cons_self, (List.forall_mem_cons.2 ⟨(List.mem_cons_of_mem _ (List.mem_append_right _ List.mem_cons_self)), (List.forall_mem_cons.2 ⟨(List.mem_cons_of_mem _ (List.mem_append_right _ (List.mem_cons_of_mem _ List.mem_cons_self))), (fun p hp => by cases hp)⟩)⟩)⟩)) (by kernel_rfl) ?_
    refine gd_q (v := .slice A0_0 a0.f0.length c0_0) (by kernel_rfl) (by kernel_rfl) (CC.refl (List.forall_mem_cons.2 ⟨List.mem_cons_self, (List.forall_mem_cons.2 ⟨(List.mem_cons_of_mem _ (List.mem_append_right _ List.mem_cons_self)), (List.forall_mem_cons.2 ⟨(List.mem_cons_of_mem _ (List.mem_append_right _ (List.mem_cons_of_mem _ List.mem_cons_self))), (fun p hp => by cases hp)⟩)⟩)⟩)) (fun I' L' T hC kk => gl_loadB (T' := 74) (xp := (.tmp 26)) (v := .slice A0_0 a0.f0.length c0_0) (g := g0) (off := 0) (cs := #[.slice A0_0 a0.f0.length c0_0]) (e := T0) (fz := (0, 0)) (by kernel_rfl) (by kernel_rfl) (by kernel_rfl) (hC.sub _ List.mem_cons_self) (by kernel_rfl) kk) ?_
    refine gd_pure 1 [4, 5, 23, 27, 28] (K' := [(4, .pointer (some ⟨g1, 0, none⟩)), (5, .pointer (some ⟨g2, 0, none⟩)), (23, .pointer (some ⟨g0, 0, none⟩)), (27, .slice A0_0 a0.f0.length c0_0), (28, .int .i64 y3.1)]) (s' := [(6, true), (7, true), (8, true), (9, false), (10, false), (11, true), (12, true)]) (CC.refl (List.forall_mem_cons.2 ⟨List.mem_cons_self, (List.forall_mem_cons.2 ⟨(List.mem_cons_of_mem _ (List.mem_append_right _ List.mem_cons_self)), (List.forall_mem_cons.2 ⟨(List.mem_cons_of_mem _ (List.mem_append_right _ (List.mem_cons_of_mem _ List.mem_cons_self))), (fun p hp => by cases hp)⟩)⟩)⟩)) (by kernel_rfl) ?_
    refine gd_q (v := .agg #[.string a1.f0, .string a1.f1]) (by kernel_rfl) (by kernel_rfl) (CC.refl (List.forall_mem_cons.2 ⟨List.mem_cons_self, (List.forall_mem_cons.2 ⟨(List.mem_cons_of_mem _ (List.mem_append_right _ List.mem_cons_self)), (List.forall_mem_cons.2 ⟨(List.mem_cons_of_mem _ (List.mem_append_right _ (List.mem_cons_of_mem _ List.mem_cons_self))), (fun p hp => by cases hp)⟩)⟩)⟩)) (fun I' L' T hC kk => gl_loadB (T' := 83) (xp := (.tmp 4)) (v := .agg #[.string a1.f0, .string a1.f1]) (g := g1) (off := 0) (cs := #[.string a1.f0, .string a1.f1]) (e := 83) (fz := (0, 0)) (by kernel_rfl) (by kernel_rfl) (by kernel_rfl) (hC.sub _ (List.mem_cons_of_mem _ (List.mem_cons_of_mem _ List.mem_cons_self))) (by kernel_rfl) kk) ?_
    refine gd_q (v := .agg #[.string a2.f0, .string a2.f1, .int .i64 a2.f2, .slice A2_3 a2.f3.length n2_3, .slice A2_4 a2.f4.length n2_4]) (by kernel_rfl) (by kernel_rfl) (CC.refl (List.forall_mem_cons.2 ⟨List.mem_cons_self, (List.forall_mem_cons.2 ⟨(List.mem_cons_of_mem _ (List.mem_append_right _ List.mem_cons_self)), (List.forall_mem_cons.2 ⟨(List.mem_cons_of_mem _ (List.mem_append_right _ (List.mem_cons_of_mem _ List.mem_cons_self))), (fun p hp => by cases hp)⟩)⟩)⟩)) (fun I' L' T hC kk => gl_loadB (T' := 24) (xp := (.tmp 5)) (v := .agg #[.string a2.f0, .string a2.f1, .int .i64 a2.f2, .slice A2_3 a2.f3.length n2_3, .slice A2_4 a2.f4.length n2_4]) (g := g2) (off := 0) (cs := #[.string a2.f0, .string a2.f1, .int .i64 a2.f2, .slice A2_3 a2.f3.length n2_3, .slice A2_4 a2.f4.length n2_4]) (e := 24) (fz := (0, 0)) (by kernel_rfl) (by kernel_rfl) (by kernel_rfl) (hC.sub _ (List.mem_cons_of_mem _ List.mem_cons_self)) (by kernel_rfl) kk) ?_
    refine gd_pure 1 [23, 27, 28, 31] (K' := [(23, .pointer (some ⟨g0, 0, none⟩)), (27, .slice A0_0 a0.f0.length c0_0), (28, .int .i64 y3.1), (31, .agg #[.string a1.f0, .string a1.f1, .string a2.f0, .string a2.f1, .int .i64 a2.f2, .slice A2_3 a2.f3.length n2_3, .slice A2_4 a2.f4.length n2_4])]) (s' := [(9, false), (10, false), (11, true), (12, true)]) (CC.refl (List.forall_mem_cons.2 ⟨List.mem_cons_self, (List.forall_mem_cons.2 ⟨(List.mem_cons_of_mem _ (List.mem_append_right _ List.mem_cons_self)), (List.forall_mem_cons.2 ⟨(List.mem_cons_of_mem _ (List.mem_append_right _ (List.mem_cons_of_mem _ List.mem_cons_self))), (fun p hp => by cases hp)⟩)⟩)⟩)) (by kernel_rfl) ?_
    refine gd_one (by kernel_rfl) ?_
    refine gl_buildSlice (T' := 74) (e := 87) (n := 7) (len := 1) (parts := #[(0, (.tmp 31))]) (l := [(0, .agg #[.string a1.f0, .string a1.f1, .string a2.f0, .string a2.f1, .int .i64 a2.f2, .slice A2_3 a2.f3.length n2_3, .slice A2_4 a2.f4.length n2_4])]) (cs := #[.string a1.f0, .string a1.f1, .string a2.f0, .string a2.f1, .int .i64 a2.f2, .slice A2_3 a2.f3.length n2_3, .slice A2_4 a2.f4.length n2_4]) (by kernel_rfl) (by kernel_rfl) (by kernel_rfl) (by kernel_rfl) (by kernel_rfl) (fun g27 => ?_)
    have hO28 : OwnS kS86 87 I5 (some ⟨g27, 0, none⟩) 1 [(⟨(⟨a1.f0, a1.f1⟩ : S82), (⟨a2.f0, a2.f1, a2.f2, a2.f3, a2.f4⟩ : S23)⟩ : S86)] [(g27, .cells #[.string a1.f0, .string a1.f1, .string a2.f0, .string a2.f1, .int .i64 a2.f2, .slice A2_3 a2.f3.length n2_3, .slice A2_4 a2.f4.length n2_4] 87)] := OwnS.lit (row_cons (l := [.string a1.f0, .string a1.f1, .string a2.f0, .string a2.f1, .int .i64 a2.f2, .slice A2_3 a2.f3.length n2_3, .slice A2_4 a2.f4.length n2_4]) (kS86_mk (x := (⟨(⟨a1.f0, a1.f1⟩ : S82), (⟨a2.f0, a2.f1, a2.f2, a2.f3, a2.f4⟩ : S23)⟩ : S86)) (hf2_3.mono hI7) (hf2_4.mono hI7)) (row_nil _ _)) rfl rfl rfl
    refine gl_reord (D := [(g27, .cells #[.string a1.f0, .string a1.f1, .string a2.f0, .string a2.f1, .int .i64 a2.f2, .slice A2_3 a2.f3.length n2_3, .slice A2_4 a2.f4.length n2_4] 87)] ++ ((g0, .cells #[.slice A0_0 a0.f0.length c0_0] T0) :: (C0_0 ++ ((g2, .cells #[.string a2.f0, .string a2.f1, .int .i64 a2.f2, .slice A2_3 a2.f3.length n2_3, .slice A2_4 a2.f4.length n2_4] 24) :: ((g1, .cells #[.string a1.f0, .string a1.f1] 83) :: L))))) (Reord.refl _) ?_
    refine gl_toD (by kernel_rfl) ⟨(Imm.refl _), (List.forall_mem_cons.2 ⟨(List.mem_append_right _ List.mem_cons_self), (List.forall_mem_cons.2 ⟨(List.mem_append_right _ (List.mem_cons_of_mem _ (List.mem_append_right _ List.mem_cons_self))), (List.forall_mem_cons.2 ⟨(List.mem_append_right _ (List.mem_cons_of_mem _ (List.mem_append_right _ (List.mem_cons_of_mem _ List.mem_cons_self)))), (fun p hp => by cases hp)⟩)⟩)⟩)⟩ ?_
    refine gd_one (by kernel_rfl) ?_
    obtain ⟨zs31, hz32, hr⟩ := bind_some hr
    refine gl_reord (D := C0_0 ++ ([(g27, .cells #[.string a1.f0, .string a1.f1, .string a2.f0, .string a2.f1, .int .i64 a2.f2, .slice A2_3 a2.f3.length n2_3, .slice A2_4 a2.f4.length n2_4] 87)] ++ ((g0, .cells #[.slice A0_0 a0.f0.length c0_0] T0) :: ((g2, .cells #[.string a2.f0, .string a2.f1, .int .i64 a2.f2, .slice A2_3 a2.f3.length n2_3, .slice A2_4 a2.f4.length n2_4] 24) :: ((g1, .cells #[.string a1.f0, .string a1.f1] 83) :: L))))) (Reord.step (Upd.app _ (Upd.one _ (Upd.rmC _ _))) (Reord.step (Upd.rmC _ _) (Reord.step1 (Upd.rm1 _ _) (Reord.step1 (Upd.rm1 _ _) (Reord.step1 (Upd.rm1 _ _) (Reord.refl _)))))) ?_
    refine gl_call (by kernel_rfl) (slices_Insert_83_walk (a0 := a0.f0) (A := A0_0) (c := c0_0) (C := C0_0) (gv := g27) (vs := [.string a1.f0, .string a1.f1, .string a2.f0, .string a2.f1, .int .i64 a2.f2, .slice A2_3 a2.f3.length n2_3, .slice A2_4 a2.f4.length n2_4]) (y := (⟨(⟨a1.f0, a1.f1⟩ : S82), (⟨a2.f0, a2.f1, a2.f2, a2.f3, a2.f4⟩ : S23)⟩ : S86)) (r := zs31) (hO0_0.mono hI7) (kS86_mk (x := (⟨(⟨a1.f0, a1.f1⟩ : S82), (⟨a2.f0, a2.f1, a2.f2, a2.f3, a2.f4⟩ : S23)⟩ : S86)) (hf2_3.mono hI7) (hf2_4.mono hI7)) hz32 _) ?_
    rintro v I37 L38 hI39 ⟨A33, n34, C35, hO36, rfl, rfl⟩
    refine gl_toD (by kernel_rfl) ⟨hI39, (List.forall_mem_cons.2 ⟨(List.mem_append_right _ List.mem_cons_self), (List.forall_mem_cons.2 ⟨(List.mem_append_right _ (List.mem_cons_of_mem _ List.mem_cons_self)), (List.forall_mem_cons.2 ⟨(List.mem_append_right _ (List.mem_cons_of_mem _ (List.mem_cons_of_mem _ List.mem_cons_self))), (fun p hp => by cases hp)⟩)⟩)⟩)⟩ ?_
    refine gd_pure 2 [33, 35] (K' := [(33, .slice A33 zs31.length n34), (35, .pointer (some ⟨g0, 0, none⟩))]) (s' := []) (CC.refl (List.forall_mem_cons.2 ⟨(List.mem_append_right _ List.mem_cons_self), (List.forall_mem_cons.2 ⟨(List.mem_append_right _ (List.mem_cons_of_mem _ List.mem_cons_self)), (List.forall_mem_cons.2 ⟨(List.mem_append_right _ (List.mem_cons_of_mem _ (List.mem_cons_of_mem _ List.mem_cons_self))), (fun p hp => by cases hp)⟩)⟩)⟩)) (by kernel_rfl) ?_
    refine gd_done ?_
    refine gl_storeB (T' := 74) (xp := (.tmp 35)) (xv := (.tmp 33)) (v := .slice A33 zs31.length n34) (g := g0) (off := 0) (cs := #[.slice A0_0 a0.f0.length c0_0]) (cs' := #[.slice A33 zs31.length n34]) (by kernel_rfl) (by kernel_rfl) (by kernel_rfl) (by kernel_rfl) (by kernel_rfl) (Upd.app _ (Upd.set _ _ _ _)) ?_ (by kernel_rfl)
    refine gl_reord (D := (g0, .cells #[.slice A33 zs31.length n34] T0) :: (C35 ++ L)) (Reord.step1 (Upd.app _ (Upd.rm1 _ _)) (Reord.step (Upd.rmC _ _) (Reord.skip (Reord.skip (Reord.refl _))))) ?_
    refine gl_atE (by kernel_rfl) ?_
    obtain rfl := some_inj hr
    exact ge_result trivial ResOk.nil (Imm.trans hI7 hI39) ⟨A33, n34, C35, hO36, rfl, rfl⟩
/-! 12 nflog_Log_Put_f12 ('obj', 'imm') -/
noncomputable def nflog_Log_Put_f12 (a0 : S77) (a1 : S23) : Option (Int × S77) :=
  Option.bind (nflog_Right a1) fun (y2 : Int) =>
  bif (y2 != 0) then
  (some (y2, a0))
  else
  (Option.bind (nflog_Log_Find_f13 a0 a1.f0 a1.f1) fun (y5 : S23 × Bool) =>
    bif (y5.2 && (decide (y5.1.f2 > a1.f2))) then
    (some (90, a0))
    else
    (Option.bind (bif (!y5.2) then
        (some (decide ((nflog_Log_Len_f18 a0) ≥ 500)))
        else
        (some false)) fun (j24 : Bool) =>
      bif j24 then
      (some (8, a0))
      else
      (Option.bind (nflog_own a1) fun (y34 : S23) =>
        Option.bind (nflog_list_put a0.f0 (⟨a1.f0, a1.f1⟩ : S82) y34) fun (y45 : S75) =>
        some (0, (⟨(⟨y45.f0⟩ : S75)⟩ : S77)))))
theorem nflog_Log_Put_f12_walk {a0 : S77} {g0 : Nat} {T0 : TypeId} {A0_0 : Option Addr} {c0_0 : Nat} {C0_0 : Own} {a1 : S23} {A1_3 : Option Addr} {n1_3 : Nat} {A1_4 : Option Addr} {n1_4 : Nat} {I : Imm} {r : Int × S77} (hG : Gl I)  (hO0_0 : OwnS kS86 87 I A0_0 c0_0 a0.f0.f0 C0_0)  (hf1_3 : RepS (Kd.sl kS79) I A1_3 n1_3 a1.f3) (hf1_4 : RepS (Kd.sl kS79) I A1_4 n1_4 a1.f4) (hr : nflog_Log_Put_f12 a0 a1 = some r) (L : Own) :
    CallsTo Tryd.prog 12 #[.pointer (some ⟨g0, 0, none⟩), .agg #[.string a1.f0, .string a1.f1, .int .i64 a1.f2, .slice A1_3 a1.f3.length n1_3, .slice A1_4 a1.f4.length n1_4]] I ((g0, .cells #[.slice A0_0 a0.f0.f0.length c0_0] T0) :: (C0_0 ++ L)) (fun v I' L' => ∃ A1_0 c1_0 C1_0, OwnS kS86 87 I' A1_0 c1_0 r.2.f0.f0 C1_0 ∧ v = .int .i64 r.1 ∧ (g0, .cells #[.slice A1_0 r.2.f0.f0.length c1_0] T0) :: (C1_0 ++ L) = L') := by
  unfold nflog_Log_Put_f12 at hr
  refine callsTo_body (N := 52) Tryd.func12 (by kernel_rfl) (by kernel_rfl) (by kernel_rfl) ?_
  refine gk_pick [0, 1] (K' := [(0, .pointer (some ⟨g0, 0, none⟩)), (1, .agg #[.string a1.f0, .string a1.f1, .int .i64 a1.f2, .slice A1_3 a1.f3.length n1_3, .slice A1_4 a1.f4.length n1_4])]) (by kernel_rfl) ?_
  refine gk_seq (by kernel_rfl) ?_
  refine gk_region (by kernel_rfl) ?_
  refine gl_box (T' := 24) (x := (.tmp 1)) (v := .agg #[.string a1.f0, .string a1.f1, .int .i64 a1.f2, .slice A1_3 a1.f3.length n1_3, .slice A1_4 a1.f4.length n1_4]) (cs := #[.string a1.f0, .string a1.f1, .int .i64 a1.f2, .slice A1_3 a1.f3.length n1_3, .slice A1_4 a1.f4.length n1_4]) (by kernel_rfl) (by kernel_rfl) (by kernel_rfl) (by kernel_rfl) (fun g1 => ?_)
  refine gl_pure 1 [0, 3] (K' := [(0, .pointer (some ⟨g0, 0, none⟩)), (3, .pointer (some ⟨g1, 0, none⟩))]) (by kernel_rfl) ?_
  refine gl_atE (by kernel_rfl) ?_
  refine ge_seq ?_
  refine gk_seq (by kernel_rfl) ?_
  refine gk_seq (by kernel_rfl) ?_
  refine gk_region (by kernel_rfl) ?_
  refine gl_pure 2 [0, 3, 9] (K' := [(0, .pointer (some ⟨g0, 0, none⟩)), (3, .pointer (some ⟨g1, 0, none⟩)), (9, .bool false)]) (by kernel_rfl) ?_
  refine gl_atE (by kernel_rfl) ?_
  refine ge_seq ?_
  refine gk_cond (b := false) (by kernel_rfl) (by kernel_rfl) (fun h => by cases h) (fun _ => ?_)
  refine gk_skip (by kernel_rfl) ?_
  refine ge_seq ?_
  refine gk_seq (by kernel_rfl) ?_
  refine gk_seq (by kernel_rfl) ?_
  refine gk_region (by kernel_rfl) ?_
  refine gl_loadB (T' := 24) (xp := (.tmp 3)) (v := .agg #[.string a1.f0, .string a1.f1, .int .i64 a1.f2, .slice A1_3 a1.f3.length n1_3, .slice A1_4 a1.f4.length n1_4]) (g := g1) (off := 0) (cs := #[.string a1.f0, .string a1.f1, .int .i64 a1.f2, .slice A1_3 a1.f3.length n1_3, .slice A1_4 a1.f4.length n1_4]) (e := 24) (fz := (0, 0)) (by kernel_rfl) (by kernel_rfl) (by kernel_rfl) List.mem_cons_self (by kernel_rfl) ?_
  obtain ⟨y2, hx3, hr⟩ := bind_some hr
  refine gl_callQ (by kernel_rfl) (nflog_Right_walk (r := y2) hG hf1_3 hf1_4 hx3 _) ?_
  refine gl_pure 1 [0, 3, 5] (K' := [(0, .pointer (some ⟨g0, 0, none⟩)), (3, .pointer (some ⟨g1, 0, none⟩)), (5, .int .i64 y2)]) (by kernel_rfl) ?_
  refine gl_atE (by kernel_rfl) ?_
  refine ge_seq ?_
  refine gk_seq (by kernel_rfl) ?_
  refine gk_region (by kernel_rfl) ?_
  refine gl_pure 2 [0, 3, 5, 13] (K' := [(0, .pointer (some ⟨g0, 0, none⟩)), (3, .pointer (some ⟨g1, 0, none⟩)), (5, .int .i64 y2), (13, .bool (y2 != 0))]) (by kernel_rfl) ?_
  refine gl_atE (by kernel_rfl) ?_
  refine ge_seq ?_
  refine gk_cond (b := (y2 != 0)) (by kernel_rfl) (by kernel_rfl) (fun hc4 => ?_) (fun hc4 => ?_)
  · have hr := cond_t hc4 hr
    refine gk_seq (by kernel_rfl) ?_
    refine gk_region (by kernel_rfl) ?_
    refine gl_pure 2 [4] (K' := [(4, .int .i64 y2)]) (by kernel_rfl) ?_
    refine gl_atE (by kernel_rfl) ?_
    refine ge_seq ?_
    refine gk_reord (D := (g0, .cells #[.slice A0_0 a0.f0.f0.length c0_0] T0) :: (C0_0 ++ L)) (Reord.step1 (Upd.one _ (Upd.rm1 _ _)) (Reord.step (Upd.one _ (Upd.rmC _ _)) (Reord.skip (Reord.refl _)))) ?_
    refine gk_ret (by kernel_rfl) ?_
    refine ge_seq_ret ?_
    obtain rfl := some_inj hr
    exact ge_result trivial (ResOk.tmp (by kernel_rfl) ResOk.nil) (Imm.refl _) ⟨A0_0, c0_0, C0_0, hO0_0, rfl, rfl⟩
  · have hr := cond_f hc4 hr
    refine gk_skip (by kernel_rfl) ?_
    refine ge_seq ?_
    refine gk_seq (by kernel_rfl) ?_
    refine gk_region (by kernel_rfl) ?_
    refine gl_pure 2 [0, 3, 16, 17] (K' := [(0, .pointer (some ⟨g0, 0, none⟩)), (3, .pointer (some ⟨g1, 0, none⟩)), (16, .pointer (some ⟨g0, 0, none⟩)), (17, .pointer (some ⟨g1, 0, none⟩))]) (by kernel_rfl) ?_
    refine gl_loadB (T' := 9) (xp := (.tmp 17)) (v := .string a1.f0) (g := g1) (off := 0) (cs := #[.string a1.f0, .string a1.f1, .int .i64 a1.f2, .slice A1_3 a1.f3.length n1_3, .slice A1_4 a1.f4.length n1_4]) (e := 24) (fz := (0, 0)) (by kernel_rfl) (by kernel_rfl) (by kernel_rfl) List.mem_cons_self (by kernel_rfl) ?_
    refine gl_pure 1 [0, 3, 16, 18, 19] (K' := [(0, .pointer (some ⟨g0, 0, none⟩)), (3, .pointer (some ⟨g1, 0, none⟩)), (16, .pointer (some ⟨g0, 0, none⟩)), (18, .string a1.f0), (19, .pointer (some ⟨g1, 1, none⟩))]) (by kernel_rfl) ?_
    refine gl_loadB (T' := 9) (xp := (.tmp 19)) (v := .string a1.f1) (g := g1) (off := 1) (cs := #[.string a1.f0, .string a1.f1, .int .i64 a1.f2, .slice A1_3 a1.f3.length n1_3, .slice A1_4 a1.f4.length n1_4]) (e := 24) (fz := (0, 0)) (by kernel_rfl) (by kernel_rfl) (by kernel_rfl) List.mem_cons_self (by kernel_rfl) ?_
    obtain ⟨y5, hx6, hr⟩ := bind_some hr
    refine gl_reord (D := (g0, .cells #[.slice A0_0 a0.f0.f0.length c0_0] T0) :: (C0_0 ++ ((g1, .cells #[.string a1.f0, .string a1.f1, .int .i64 a1.f2, .slice A1_3 a1.f3.length n1_3, .slice A1_4 a1.f4.length n1_4] 24) :: L))) (Reord.step1 (Upd.one _ (Upd.rm1 _ _)) (Reord.step (Upd.one _ (Upd.rmC _ _)) (Reord.step1 (Upd.rm1 _ _) (Reord.refl _)))) ?_
    refine gl_call (by kernel_rfl) (nflog_Log_Find_f13_walk (r := y5) (g0 := g0) (T0 := T0) (A0_0 := A0_0) (c0_0 := c0_0) (C0_0 := C0_0) (a0 := a0) hO0_0 hx6 _) ?_
    rintro v I7 L8 hI9 ⟨A10, c11, A12, c13, hf14, hf15, rfl, rfl⟩
    refine gl_pure 3 [0, 3, 22, 23] (K' := [(0, .pointer (some ⟨g0, 0, none⟩)), (3, .pointer (some ⟨g1, 0, none⟩)), (22, .agg #[.string y5.1.f0, .string y5.1.f1, .int .i64 y5.1.f2, .slice A10 y5.1.f3.length c11, .slice A12 y5.1.f4.length c13]), (23, .bool y5.2)]) (by kernel_rfl) ?_
    refine gl_alloc (T' := 24) (cs := #[.string (⟨#[]⟩ : ByteArray), .string (⟨#[]⟩ : ByteArray), .int .i64 0, .slice none 0 0, .slice none 0 0]) (by kernel_rfl) (by kernel_rfl) (by kernel_rfl) (fun g16 => ?_)
    refine gl_storeB (T' := 24) (xp := (.tmp 6)) (xv := (.tmp 22)) (v := .agg #[.string y5.1.f0, .string y5.1.f1, .int .i64 y5.1.f2, .slice A10 y5.1.f3.length c11, .slice A12 y5.1.f4.length c13]) (g := g16) (off := 0) (cs := #[.string (⟨#[]⟩ : ByteArray), .string (⟨#[]⟩ : ByteArray), .int .i64 0, .slice none 0 0, .slice none 0 0]) (cs' := #[.string y5.1.f0, .string y5.1.f1, .int .i64 y5.1.f2, .slice A10 y5.1.f3.length c11, .slice A12 y5.1.f4.length c13]) (by kernel_rfl) (by kernel_rfl) (by kernel_rfl) (by kernel_rfl) (by kernel_rfl) (Upd.set _ _ _ _) ?_ (by kernel_rfl)
    refine gl_pure 1 [0, 3, 6, 7] (K' := [(0, .pointer (some ⟨g0, 0, none⟩)), (3, .pointer (some ⟨g1, 0, none⟩)), (6, .pointer (some ⟨g16, 0, none⟩)), (7, .bool y5.2)]) (by kernel_rfl) ?_
    refine gl_atE (by kernel_rfl) ?_
    refine ge_seq ?_
    refine gk_seq (by kernel_rfl) ?_
    refine gk_block (by kernel_rfl) ?_
    refine gk_seq (by kernel_rfl) ?_
    obtain ⟨b19, hb20⟩ : ∃ z, z = (y5.2 && (decide (y5.1.f2 > a1.f2))) := ⟨_, rfl⟩
    refine gk_join (fun t I' L' => I7 ≤ I' ∧ (g16, .cells #[.string y5.1.f0, .string y5.1.f1, .int .i64 y5.1.f2, .slice A10 y5.1.f3.length c11, .slice A12 y5.1.f4.length c13] 24) :: ((g0, .cells #[.slice A0_0 a0.f0.f0.length c0_0] T0) :: (C0_0 ++ ((g1, .cells #[.string a1.f0, .string a1.f1, .int .i64 a1.f2, .slice A1_3 a1.f3.length n1_3, .slice A1_4 a1.f4.length n1_4] 24) :: L))) = L' ∧ Knows 52 [(0, .pointer (some ⟨g0, 0, none⟩)), (3, .pointer (some ⟨g1, 0, none⟩)), (7, .bool y5.2), (24, .bool b19)] t) ?_ ?_
    · refine gk_region (by kernel_rfl) ?_
      refine gl_pure 2 [0, 3, 6, 7, 26] (K' := [(0, .pointer (some ⟨g0, 0, none⟩)), (3, .pointer (some ⟨g1, 0, none⟩)), (6, .pointer (some ⟨g16, 0, none⟩)), (7, .bool y5.2), (26, .bool y5.2)]) (by kernel_rfl) ?_
      refine gl_case 26 (b := y5.2) (by kernel_rfl) (fun hc22 => ?_) (fun hc22 => ?_)
      · refine gl_pure 1 [0, 3, 7, 26, 27] (K' := [(0, .pointer (some ⟨g0, 0, none⟩)), (3, .pointer (some ⟨g1, 0, none⟩)), (7, .bool y5.2), (26, .bool true), (27, .pointer (some ⟨g16, 2, none⟩))]) (by kernel_rfl) ?_
        refine gl_loadB (T' := 2) (xp := (.tmp 27)) (v := .int .i64 y5.1.f2) (g := g16) (off := 2) (cs := #[.string y5.1.f0, .string y5.1.f1, .int .i64 y5.1.f2, .slice A10 y5.1.f3.length c11, .slice A12 y5.1.f4.length c13]) (e := 24) (fz := (0, 0)) (by kernel_rfl) (by kernel_rfl) (by kernel_rfl) List.mem_cons_self (by kernel_rfl) ?_
        refine gl_pure 1 [0, 3, 7, 26, 28, 29] (K' := [(0, .pointer (some ⟨g0, 0, none⟩)), (3, .pointer (some ⟨g1, 0, none⟩)), (7, .bool y5.2), (26, .bool true), (28, .int .i64 y5.1.f2), (29, .pointer (some ⟨g1, 2, none⟩))]) (by kernel_rfl) ?_
        refine gl_loadB (T' := 2) (xp := (.tmp 29)) (v := .int .i64 a1.f2) (g := g1) (off := 2) (cs := #[.string a1.f0, .string a1.f1, .int .i64 a1.f2, .slice A1_3 a1.f3.length n1_3, .slice A1_4 a1.f4.length n1_4]) (e := 24) (fz := (0, 0)) (by kernel_rfl) (by kernel_rfl) (by kernel_rfl) (List.mem_cons_of_mem _ (List.mem_cons_of_mem _ (List.mem_append_right _ List.mem_cons_self))) (by kernel_rfl) ?_
        refine gl_pure 3 [0, 3, 7, 24] (K' := [(0, .pointer (some ⟨g0, 0, none⟩)), (3, .pointer (some ⟨g1, 0, none⟩)), (7, .bool y5.2), (24, .bool (decide (y5.1.f2 > a1.f2)))]) (by kernel_rfl) ?_
        refine gl_atE (by kernel_rfl) ?_
        exact ge_mid fun t ht => ⟨(Imm.refl _), rfl, by rw [(show b19 = (decide (y5.1.f2 > a1.f2)) from hb20.trans (by rw [hc22]; try rfl))]; exact ht.pick (l := [0, 3, 7, 24]) (by kernel_rfl)⟩
      · refine gl_pure 7 [0, 3, 7, 24] (K' := [(0, .pointer (some ⟨g0, 0, none⟩)), (3, .pointer (some ⟨g1, 0, none⟩)), (7, .bool y5.2), (24, .bool false)]) (by kernel_rfl) ?_
        refine gl_atE (by kernel_rfl) ?_
        exact ge_mid fun t ht => ⟨(Imm.refl _), rfl, by rw [(show b19 = false from hb20.trans (by rw [hc22]; try rfl))]; exact ht.pick (l := [0, 3, 7, 24]) (by kernel_rfl)⟩
    · rintro t I21 L' ⟨hI17, rfl, hK18⟩
      subst hb20
      refine ge_at hK18 ?_
      refine ge_seq ?_
      refine gk_cond (b := (y5.2 && (decide (y5.1.f2 > a1.f2)))) (by kernel_rfl) (by kernel_rfl) (fun hc23 => ?_) (fun hc23 => ?_)
      · have hr := cond_t hc23 hr
        refine gk_seq (by kernel_rfl) ?_
        refine gk_region (by kernel_rfl) ?_
        refine gl_pure 1 [4] (K' := [(4, .int .i64 90)]) (by kernel_rfl) ?_
        refine gl_atE (by kernel_rfl) ?_
        refine ge_seq ?_
        refine gk_reord (D := (g0, .cells #[.slice A0_0 a0.f0.f0.length c0_0] T0) :: (C0_0 ++ L)) (Reord.step1 (Upd.one _ (Upd.rm1 _ _)) (Reord.step (Upd.one _ (Upd.rmC _ _)) (Reord.skip (Reord.skip (Reord.refl _))))) ?_
        refine gk_ret (by kernel_rfl) ?_
        refine ge_block_ret ?_
        refine ge_seq_ret ?_
        obtain rfl := some_inj hr
        exact ge_result trivial (ResOk.tmp (by kernel_rfl) ResOk.nil) (Imm.trans hI9 hI17) ⟨A0_0, c0_0, C0_0, (hO0_0.mono (Imm.trans hI9 hI17)), rfl, rfl⟩
      · have hr := cond_f hc23 hr
        refine gk_seq (by kernel_rfl) ?_
        obtain ⟨j24, hj25, hr⟩ := bind_some hr
        refine gk_join (fun t I' L' => I21 ≤ I' ∧ (g0, .cells #[.slice A0_0 a0.f0.f0.length c0_0] T0) :: (C0_0 ++ ((g1, .cells #[.string a1.f0, .string a1.f1, .int .i64 a1.f2, .slice A1_3 a1.f3.length n1_3, .slice A1_4 a1.f4.length n1_4] 24) :: L)) = L' ∧ Knows 52 [(0, .pointer (some ⟨g0, 0, none⟩)), (3, .pointer (some ⟨g1, 0, none⟩)), (33, .bool j24)] t) ?_ ?_
        · refine gk_region (by kernel_rfl) ?_
          refine gl_pure 3 [0, 3, 36] (K' := [(0, .pointer (some ⟨g0, 0, none⟩)), (3, .pointer (some ⟨g1, 0, none⟩)), (36, .bool (!y5.2))]) (by kernel_rfl) ?_
          refine gl_case 36 (b := (!y5.2)) (by kernel_rfl) (fun hc29 => ?_) (fun hc29 => ?_)
          · have hj25 := cond_t hc29 hj25
            refine gl_pure 1 [0, 3, 36, 37] (K' := [(0, .pointer (some ⟨g0, 0, none⟩)), (3, .pointer (some ⟨g1, 0, none⟩)), (36, .bool true), (37, .pointer (some ⟨g0, 0, none⟩))]) (by kernel_rfl) ?_
            refine gl_reord (D := (g0, .cells #[.slice A0_0 a0.f0.f0.length c0_0] T0) :: (C0_0 ++ ((g16, .cells #[.string y5.1.f0, .string y5.1.f1, .int .i64 y5.1.f2, .slice A10 y5.1.f3.length c11, .slice A12 y5.1.f4.length c13] 24) :: ((g1, .cells #[.string a1.f0, .string a1.f1, .int .i64 a1.f2, .slice A1_3 a1.f3.length n1_3, .slice A1_4 a1.f4.length n1_4] 24) :: L)))) (Reord.step1 (Upd.one _ (Upd.rm1 _ _)) (Reord.step (Upd.one _ (Upd.rmC _ _)) (Reord.step1 (Upd.rm1 _ _) (Reord.step1 (Upd.rm1 _ _) (Reord.refl _))))) ?_
            refine gl_call (by kernel_rfl) (nflog_Log_Len_f18_walk (r := (nflog_Log_Len_f18 a0)) (g0 := g0) (T0 := T0) (A0_0 := A0_0) (c0_0 := c0_0) (C0_0 := C0_0) (a0 := a0) (hO0_0.mono (Imm.trans hI9 hI17)) rfl _) ?_
            rintro v I30 L31 hI32 ⟨rfl, rfl⟩
            refine gl_pure 3 [0, 3, 33] (K' := [(0, .pointer (some ⟨g0, 0, none⟩)), (3, .pointer (some ⟨g1, 0, none⟩)), (33, .bool (decide ((nflog_Log_Len_f18 a0) ≥ 500)))]) (by kernel_rfl) ?_
            refine gl_reord (D := (g0, .cells #[.slice A0_0 a0.f0.f0.length c0_0] T0) :: (C0_0 ++ ((g1, .cells #[.string a1.f0, .string a1.f1, .int .i64 a1.f2, .slice A1_3 a1.f3.length n1_3, .slice A1_4 a1.f4.length n1_4] 24) :: L))) (Reord.step1 (Upd.rm1 _ _) (Reord.step (Upd.rmC _ _) (Reord.step1 (Upd.one _ (Upd.rm1 _ _)) (Reord.skip (Reord.refl _))))) ?_
            refine gl_atE (by kernel_rfl) ?_
            obtain rfl := some_inj hj25
            exact ge_mid fun t ht => ⟨hI32, rfl, ht.pick (l := [0, 3, 33]) (by kernel_rfl)⟩
          · have hj25 := cond_f hc29 hj25
            refine gl_pure 5 [0, 3, 33] (K' := [(0, .pointer (some ⟨g0, 0, none⟩)), (3, .pointer (some ⟨g1, 0, none⟩)), (33, .bool false)]) (by kernel_rfl) ?_
            refine gl_reord (D := (g0, .cells #[.slice A0_0 a0.f0.f0.length c0_0] T0) :: (C0_0 ++ ((g1, .cells #[.string a1.f0, .string a1.f1, .int .i64 a1.f2, .slice A1_3 a1.f3.length n1_3, .slice A1_4 a1.f4.length n1_4] 24) :: L))) (Reord.step1 (Upd.one _ (Upd.rm1 _ _)) (Reord.step (Upd.one _ (Upd.rmC _ _)) (Reord.step1 (Upd.one _ (Upd.rm1 _ _)) (Reord.skip (Reord.refl _))))) ?_
            refine gl_atE (by kernel_rfl) ?_
            obtain rfl := some_inj hj25
            exact ge_mid fun t ht => ⟨(Imm.refl _), rfl, ht.pick (l := [0, 3, 33]) (by kernel_rfl)⟩
        · rintro t I28 L' ⟨hI26, rfl, hK27⟩
          refine ge_at hK27 ?_
          refine ge_seq ?_
          refine gk_cond (b := j24) (by kernel_rfl) (by kernel_rfl) (fun hc33 => ?_) (fun hc33 => ?_)
          · have hr := cond_t hc33 hr
            refine gk_seq (by kernel_rfl) ?_
            refine gk_region (by kernel_rfl) ?_
            refine gl_pure 1 [4] (K' := [(4, .int .i64 8)]) (by kernel_rfl) ?_
            refine gl_atE (by kernel_rfl) ?_
            refine ge_seq ?_
            refine gk_reord (D := (g0, .cells #[.slice A0_0 a0.f0.f0.length c0_0] T0) :: (C0_0 ++ L)) (Reord.step1 (Upd.rm1 _ _) (Reord.step (Upd.rmC _ _) (Reord.skip (Reord.refl _)))) ?_
            refine gk_ret (by kernel_rfl) ?_
            refine ge_block_ret ?_
            refine ge_seq_ret ?_
            obtain rfl := some_inj hr
            exact ge_result trivial (ResOk.tmp (by kernel_rfl) ResOk.nil) (Imm.trans (Imm.trans hI9 hI17) hI26) ⟨A0_0, c0_0, C0_0, (hO0_0.mono (Imm.trans (Imm.trans hI9 hI17) hI26)), rfl, rfl⟩
          · have hr := cond_f hc33 hr
            refine gk_skip (by kernel_rfl) ?_
            refine ge_block_normal ?_
            refine ge_seq ?_
            refine gk_seq (by kernel_rfl) ?_
            refine gk_draw 10 [(0, true), (1, true), (2, true), (3, true), (4, true), (5, true), (6, true), (7, true), (8, true), (9, false)] [(g0, .cells #[.slice A0_0 a0.f0.f0.length c0_0] T0), (g1, .cells #[.string a1.f0, .string a1.f1, .int .i64 a1.f2, .slice A1_3 a1.f3.length n1_3, .slice A1_4 a1.f4.length n1_4] 24)] (List.forall_mem_cons.2 ⟨List.mem_cons_self, (List.forall_mem_cons.2 ⟨(List.mem_cons_of_mem _ (List.mem_append_right _ List.mem_cons_self)), (fun p hp => by cases hp)⟩)⟩) (by kernel_rfl) (by kernel_rfl) (by kernel_rfl) ?_ (by kernel_rfl)
            refine gd_pure 4 [3, 43, 44] (K' := [(3, .pointer (some ⟨g1, 0, none⟩)), (43, .pointer (some ⟨g0, 0, none⟩)), (44, .pointer (some ⟨g1, 0, none⟩))]) (s' := [(4, true), (5, true), (6, true), (7, true), (8, true), (9, false)]) (CC.refl (List.forall_mem_cons.2 ⟨List.mem_cons_self, (List.forall_mem_cons.2 ⟨(List.mem_cons_of_mem _ (List.mem_append_right _ List.mem_cons_self)), (fun p hp => by cases hp)⟩)⟩)) (by kernel_rfl) ?_
            refine gd_q (v := .string a1.f0) (by kernel_rfl) (by kernel_rfl) (CC.refl (List.forall_mem_cons.2 ⟨List.mem_cons_self, (List.forall_mem_cons.2 ⟨(List.mem_cons_of_mem _ (List.mem_append_right _ List.mem_cons_self)), (fun p hp => by cases hp)⟩)⟩)) (fun I' L' T hC kk => gl_loadB (T' := 9) (xp := (.tmp 44)) (v := .string a1.f0) (g := g1) (off := 0) (cs := #[.string a1.f0, .string a1.f1, .int .i64 a1.f2, .slice A1_3 a1.f3.length n1_3, .slice A1_4 a1.f4.length n1_4]) (e := 24) (fz := (0, 0)) (by kernel_rfl) (by kernel_rfl) (by kernel_rfl) (hC.sub _ (List.mem_cons_of_mem _ List.mem_cons_self)) (by kernel_rfl) kk) ?_
            refine gd_pure 1 [3, 43, 45, 46] (K' := [(3, .pointer (some ⟨g1, 0, none⟩)), (43, .pointer (some ⟨g0, 0, none⟩)), (45, .string a1.f0), (46, .pointer (some ⟨g1, 1, none⟩))]) (s' := [(6, true), (7, true), (8, true), (9, false)]) (CC.refl (List.forall_mem_cons.2 ⟨List.mem_cons_self, (List.forall_mem_cons.2 ⟨(List.mem_cons_of_mem _ (List.mem_append_right _ List.mem_cons_self)), (fun p hp => by cases hp)⟩)⟩)) (by kernel_rfl) ?_
            refine gd_q (v := .string a1.f1) (by kernel_rfl) (by kernel_rfl) (CC.refl (List.forall_mem_cons.2 ⟨List.mem_cons_self, (List.forall_mem_cons.2 ⟨(List.mem_cons_of_mem _ (List.mem_append_right _ List.mem_cons_self)), (fun p hp => by cases hp)⟩)⟩)) (fun I' L' T hC kk => gl_loadB (T' := 9) (xp := (.tmp 46)) (v := .string a1.f1) (g := g1) (off := 1) (cs := #[.string a1.f0, .string a1.f1, .int .i64 a1.f2, .slice A1_3 a1.f3.length n1_3, .slice A1_4 a1.f4.length n1_4]) (e := 24) (fz := (0, 0)) (by kernel_rfl) (by kernel_rfl) (by kernel_rfl) (hC.sub _ (List.mem_cons_of_mem _ List.mem_cons_self)) (by kernel_rfl) kk) ?_
            refine gd_pure 1 [3, 43, 48] (K' := [(3, .pointer (some ⟨g1, 0, none⟩)), (43, .pointer (some ⟨g0, 0, none⟩)), (48, .agg #[.string a1.f0, .string a1.f1])]) (s' := [(8, true), (9, false)]) (CC.refl (List.forall_mem_cons.2 ⟨List.mem_cons_self, (List.forall_mem_cons.2 ⟨(List.mem_cons_of_mem _ (List.mem_append_right _ List.mem_cons_self)), (fun p hp => by cases hp)⟩)⟩)) (by kernel_rfl) ?_
            refine gd_q (v := .agg #[.string a1.f0, .string a1.f1, .int .i64 a1.f2, .slice A1_3 a1.f3.length n1_3, .slice A1_4 a1.f4.length n1_4]) (by kernel_rfl) (by kernel_rfl) (CC.refl (List.forall_mem_cons.2 ⟨List.mem_cons_self, (List.forall_mem_cons.2 ⟨(List.mem_cons_of_mem _ (List.mem_append_right _ List.mem_cons_self)), (fun p hp => by cases hp)⟩)⟩)) (fun I' L' T hC kk => gl_loadB (T' := 24) (xp := (.tmp 3)) (v := .agg #[.string a1.f0, .string a1.f1, .int .i64 a1.f2, .slice A1_3 a1.f3.length n1_3, .slice A1_4 a1.f4.length n1_4]) (g := g1) (off := 0) (cs := #[.string a1.f0, .string a1.f1, .int .i64 a1.f2, .slice A1_3 a1.f3.length n1_3, .slice A1_4 a1.f4.length n1_4]) (e := 24) (fz := (0, 0)) (by kernel_rfl) (by kernel_rfl) (by kernel_rfl) (hC.sub _ (List.mem_cons_of_mem _ List.mem_cons_self)) (by kernel_rfl) kk) ?_
            refine gd_one (by kernel_rfl) ?_
            obtain ⟨y34, hx35, hr⟩ := bind_some hr
            refine gl_call (by kernel_rfl) (nflog_own_walk (r := y34) (hf1_3.mono (Imm.trans (Imm.trans hI9 hI17) hI26)) (hf1_4.mono (Imm.trans (Imm.trans hI9 hI17) hI26)) hx35 _) ?_
            rintro v I36 L37 hI38 ⟨A39, c40, A41, c42, hf43, hf44, rfl, rfl⟩
            refine gl_toD (by kernel_rfl) ⟨hI38, (List.forall_mem_cons.2 ⟨List.mem_cons_self, (List.forall_mem_cons.2 ⟨(List.mem_cons_of_mem _ (List.mem_append_right _ List.mem_cons_self)), (fun p hp => by cases hp)⟩)⟩)⟩ ?_
            refine gd_done ?_
            obtain ⟨y45, hx46, hr⟩ := bind_some hr
            refine gl_call (by kernel_rfl) (nflog_list_put_walk (r := y45) (g0 := g0) (T0 := T0) (A0_0 := A0_0) (c0_0 := c0_0) (C0_0 := C0_0) (a0 := a0.f0) (hO0_0.mono (Imm.trans (Imm.trans (Imm.trans hI9 hI17) hI26) hI38)) hf43 hf44 hx46 _) ?_
            rintro v I47 L48 hI49 ⟨A50, c51, C52, hO53, rfl, rfl⟩
            refine gl_atE (by kernel_rfl) ?_
            refine ge_seq ?_
            refine gk_seq (by kernel_rfl) ?_
            refine gk_region (by kernel_rfl) ?_
            refine gl_pure 1 [4] (K' := [(4, .int .i64 0)]) (by kernel_rfl) ?_
            refine gl_atE (by kernel_rfl) ?_
            refine ge_seq ?_
            refine gk_reord (D := (g0, .cells #[.slice A50 y45.f0.length c51] T0) :: (C52 ++ L)) (Reord.step1 (Upd.rm1 _ _) (Reord.step (Upd.rmC _ _) (Reord.skip (Reord.refl _)))) ?_
            refine gk_ret (by kernel_rfl) ?_
            obtain rfl := some_inj hr
            exact ge_result trivial (ResOk.tmp (by kernel_rfl) ResOk.nil) (Imm.trans (Imm.trans (Imm.trans (Imm.trans hI9 hI17) hI26) hI38) hI49) ⟨A50, c51, C52, hO53, rfl, rfl⟩
/-! 11 tocsinlaw26_awake  -/
noncomputable def tocsinlaw26_awake : Option Bool :=
  Option.bind (nflog_Log_Needs_f14 (⟨(⟨nflog_New.f0.f0⟩ : S75)⟩ : S77) (⟨#[116, 101, 97, 109]⟩ : ByteArray) (⟨#[107]⟩ : ByteArray) 100 50 [[(⟨(⟨#[97]⟩ : ByteArray), (⟨#[49]⟩ : ByteArray)⟩ : S79)]] []) fun (y25 : Bool × Int) =>
  Option.bind (nflog_Log_Put_f12 (⟨(⟨nflog_New.f0.f0⟩ : S75)⟩ : S77) (⟨(⟨#[116, 101, 97, 109]⟩ : ByteArray), (⟨#[107]⟩ : ByteArray), 100, [[(⟨(⟨#[97]⟩ : ByteArray), (⟨#[49]⟩ : ByteArray)⟩ : S79)]], []⟩ : S23)) fun (y30 : Int × S77) =>
  Option.bind (nflog_Log_Needs_f14 y30.2 (⟨#[116, 101, 97, 109]⟩ : ByteArray) (⟨#[107]⟩ : ByteArray) 120 50 [[(⟨(⟨#[97]⟩ : ByteArray), (⟨#[49]⟩ : ByteArray)⟩ : S79)]] []) fun (y39 : Bool × Int) =>
  Option.bind (nflog_Log_Needs_f14 y30.2 (⟨#[116, 101, 97, 109]⟩ : ByteArray) (⟨#[107]⟩ : ByteArray) 150 50 [[(⟨(⟨#[97]⟩ : ByteArray), (⟨#[49]⟩ : ByteArray)⟩ : S79)]] []) fun (y44 : Bool × Int) =>
  some ((((((y25.1 && (y25.2 == 0)) && (y30.1 == 0)) && (!y39.1)) && (y39.2 == 0)) && y44.1) && (y44.2 == 0))
theorem tocsinlaw26_awake_walk  {I : Imm} {r : Bool} (hG : Gl I) (hr : tocsinlaw26_awake = some r) (L : Own) :
    CallsTo Tryd.prog 11 #[] I L (fun v I' L' => v = .bool r ∧ L = L') := by
  unfold tocsinlaw26_awake at hr
  refine callsTo_body (N := 62) Tryd.func11 (by kernel_rfl) (by kernel_rfl) (by kernel_rfl) ?_
  refine gk_pick [] (K' := []) (by kernel_rfl) ?_
  refine gk_seq (by kernel_rfl) ?_
  refine gk_region (by kernel_rfl) ?_
  refine gl_pure 1 [] (K' := []) (by kernel_rfl) ?_
  refine gl_atE (by kernel_rfl) ?_
  refine ge_seq ?_
  refine gk_seq (by kernel_rfl) ?_
  refine gk_region (by kernel_rfl) ?_
  refine gl_call (by kernel_rfl) (nflog_New_walk (r := nflog_New)  rfl _) ?_
  rintro v I1 L2 hI3 ⟨g4, A5, c6, C7, hO8, rfl, rfl⟩
  refine gl_pure 1 [1] (K' := [(1, .pointer (some ⟨g4, 0, none⟩))]) (by kernel_rfl) ?_
  refine gl_atE (by kernel_rfl) ?_
  refine ge_seq ?_
  refine gk_seq (by kernel_rfl) ?_
  refine gk_seq (by kernel_rfl) ?_
  refine gk_region (by kernel_rfl) ?_
  refine gl_pure 2 [1, 12] (K' := [(1, .pointer (some ⟨g4, 0, none⟩)), (12, .bool false)]) (by kernel_rfl) ?_
  refine gl_atE (by kernel_rfl) ?_
  refine ge_seq ?_
  refine gk_cond (b := false) (by kernel_rfl) (by kernel_rfl) (fun h => by cases h) (fun _ => ?_)
  refine gk_skip (by kernel_rfl) ?_
  refine ge_seq ?_
  refine gk_seq (by kernel_rfl) ?_
  refine gk_region (by kernel_rfl) ?_
  refine gl_pure 1 [1, 13] (K' := [(1, .pointer (some ⟨g4, 0, none⟩)), (13, .agg #[.string (⟨#[97]⟩ : ByteArray), .string (⟨#[49]⟩ : ByteArray)])]) (by kernel_rfl) ?_
  refine gl_buildSlice (T' := 36) (e := 80) (n := 2) (len := 1) (parts := #[(0, (.tmp 13))]) (l := [(0, .agg #[.string (⟨#[97]⟩ : ByteArray), .string (⟨#[49]⟩ : ByteArray)])]) (cs := #[.string (⟨#[97]⟩ : ByteArray), .string (⟨#[49]⟩ : ByteArray)]) (by kernel_rfl) (by kernel_rfl) (by kernel_rfl) (by kernel_rfl) (by kernel_rfl) (fun g9 => ?_)
  have hO10 : OwnS kS79 80 I1 (some ⟨g9, 0, none⟩) 1 [(⟨(⟨#[97]⟩ : ByteArray), (⟨#[49]⟩ : ByteArray)⟩ : S79)] [(g9, .cells #[.string (⟨#[97]⟩ : ByteArray), .string (⟨#[49]⟩ : ByteArray)] 80)] := OwnS.lit (row_cons (l := [.string (⟨#[97]⟩ : ByteArray), .string (⟨#[49]⟩ : ByteArray)]) (kS79_mk (x := (⟨(⟨#[97]⟩ : ByteArray), (⟨#[49]⟩ : ByteArray)⟩ : S79)) ) (row_nil _ _)) rfl rfl rfl
  refine gl_reord (D := [(g9, .cells #[.string (⟨#[97]⟩ : ByteArray), .string (⟨#[49]⟩ : ByteArray)] 80)] ++ ((g4, .cells #[.slice A5 nflog_New.f0.f0.length c6] 78) :: (C7 ++ L))) (Reord.refl _) ?_
  refine gl_rest (Tk.step (Upd.rmC _ _) (Tk.nil _)) (fun J13 hJ14 hC15 => ?_)
  have hf16 := (OwnS.rest hO10 hJ14 hC15.left)
  refine gl_buildSlice (T' := 22) (e := 36) (n := 1) (len := 1) (parts := #[(0, (.tmp 14))]) (l := [(0, .slice (some ⟨g9, 0, none⟩) [(⟨(⟨#[97]⟩ : ByteArray), (⟨#[49]⟩ : ByteArray)⟩ : S79)].length 1)]) (cs := #[.slice (some ⟨g9, 0, none⟩) [(⟨(⟨#[97]⟩ : ByteArray), (⟨#[49]⟩ : ByteArray)⟩ : S79)].length 1]) (by kernel_rfl) (by kernel_rfl) (by kernel_rfl) (by kernel_rfl) (by kernel_rfl) (fun g17 => ?_)
  have hO18 : OwnS (Kd.sl kS79) 36 J13 (some ⟨g17, 0, none⟩) 1 [[(⟨(⟨#[97]⟩ : ByteArray), (⟨#[49]⟩ : ByteArray)⟩ : S79)]] [(g17, .cells #[.slice (some ⟨g9, 0, none⟩) [(⟨(⟨#[97]⟩ : ByteArray), (⟨#[49]⟩ : ByteArray)⟩ : S79)].length 1] 36)] := OwnS.lit (row_cons (l := [.slice (some ⟨g9, 0, none⟩) [(⟨(⟨#[97]⟩ : ByteArray), (⟨#[49]⟩ : ByteArray)⟩ : S79)].length 1]) ⟨_, _, rfl, hf16⟩ (row_nil _ _)) rfl rfl rfl
  refine gl_reord (D := [(g17, .cells #[.slice (some ⟨g9, 0, none⟩) [(⟨(⟨#[97]⟩ : ByteArray), (⟨#[49]⟩ : ByteArray)⟩ : S79)].length 1] 36)] ++ ((g4, .cells #[.slice A5 nflog_New.f0.f0.length c6] 78) :: (C7 ++ L))) (Reord.refl _) ?_
  refine gl_pure 1 [1, 2] (K' := [(1, .pointer (some ⟨g4, 0, none⟩)), (2, .slice (some ⟨g17, 0, none⟩) [[(⟨(⟨#[97]⟩ : ByteArray), (⟨#[49]⟩ : ByteArray)⟩ : S79)]].length 1)]) (by kernel_rfl) ?_
  refine gl_atE (by kernel_rfl) ?_
  refine ge_seq ?_
  refine gk_seq (by kernel_rfl) ?_
  refine gk_region (by kernel_rfl) ?_
  refine gl_pure 2 [1, 2, 17, 18] (K' := [(1, .pointer (some ⟨g4, 0, none⟩)), (2, .slice (some ⟨g17, 0, none⟩) [[(⟨(⟨#[97]⟩ : ByteArray), (⟨#[49]⟩ : ByteArray)⟩ : S79)]].length 1), (17, .pointer (some ⟨g4, 0, none⟩)), (18, .slice (some ⟨g17, 0, none⟩) [[(⟨(⟨#[97]⟩ : ByteArray), (⟨#[49]⟩ : ByteArray)⟩ : S79)]].length 1)]) (by kernel_rfl) ?_
  refine gl_rest (Tk.step (Upd.rmC _ _) (Tk.nil _)) (fun J21 hJ22 hC23 => ?_)
  have hf24 := (OwnS.rest hO18 hJ22 hC23.left)
  obtain ⟨y25, hx26, hr⟩ := bind_some hr
  refine gl_call (by kernel_rfl) (nflog_Log_Needs_f14_walk (r := y25) (g0 := g4) (T0 := 78) (A0_0 := A5) (c0_0 := c6) (C0_0 := C7) (a0 := (⟨(⟨nflog_New.f0.f0⟩ : S75)⟩ : S77)) (hG.mono (Imm.trans (Imm.trans hI3 hJ14) hJ22)) (hO8.mono (Imm.trans hJ14 hJ22)) hf24 (RepS.nil _ _) hx26 _) ?_
  rintro v I27 L28 hI29 ⟨rfl, rfl⟩
  refine gl_pure 5 [1, 2, 3, 4] (K' := [(1, .pointer (some ⟨g4, 0, none⟩)), (2, .slice (some ⟨g17, 0, none⟩) [[(⟨(⟨#[97]⟩ : ByteArray), (⟨#[49]⟩ : ByteArray)⟩ : S79)]].length 1), (3, .bool y25.1), (4, .int .i64 y25.2)]) (by kernel_rfl) ?_
  refine gl_atE (by kernel_rfl) ?_
  refine ge_seq ?_
  refine gk_seq (by kernel_rfl) ?_
  refine gk_region (by kernel_rfl) ?_
  refine gl_pure 3 [1, 2, 3, 4, 22, 24] (K' := [(1, .pointer (some ⟨g4, 0, none⟩)), (2, .slice (some ⟨g17, 0, none⟩) [[(⟨(⟨#[97]⟩ : ByteArray), (⟨#[49]⟩ : ByteArray)⟩ : S79)]].length 1), (3, .bool y25.1), (4, .int .i64 y25.2), (22, .pointer (some ⟨g4, 0, none⟩)), (24, .agg #[.string (⟨#[116, 101, 97, 109]⟩ : ByteArray), .string (⟨#[107]⟩ : ByteArray), .int .i64 100, .slice (some ⟨g17, 0, none⟩) [[(⟨(⟨#[97]⟩ : ByteArray), (⟨#[49]⟩ : ByteArray)⟩ : S79)]].length 1, .slice none 0 0])]) (by kernel_rfl) ?_
  obtain ⟨y30, hx31, hr⟩ := bind_some hr
  refine gl_call (by kernel_rfl) (nflog_Log_Put_f12_walk (r := y30) (g0 := g4) (T0 := 78) (A0_0 := A5) (c0_0 := c6) (C0_0 := C7) (a0 := (⟨(⟨nflog_New.f0.f0⟩ : S75)⟩ : S77)) (hG.mono (Imm.trans (Imm.trans (Imm.trans hI3 hJ14) hJ22) hI29)) (hO8.mono (Imm.trans (Imm.trans hJ14 hJ22) hI29)) (hf24.mono hI29) (RepS.nil _ _) hx31 _) ?_
  rintro v I32 L33 hI34 ⟨A35, c36, C37, hO38, rfl, rfl⟩
  refine gl_pure 1 [1, 2, 3, 4, 5] (K' := [(1, .pointer (some ⟨g4, 0, none⟩)), (2, .slice (some ⟨g17, 0, none⟩) [[(⟨(⟨#[97]⟩ : ByteArray), (⟨#[49]⟩ : ByteArray)⟩ : S79)]].length 1), (3, .bool y25.1), (4, .int .i64 y25.2), (5, .int .i64 y30.1)]) (by kernel_rfl) ?_
  refine gl_atE (by kernel_rfl) ?_
  refine ge_seq ?_
  refine gk_seq (by kernel_rfl) ?_
  refine gk_region (by kernel_rfl) ?_
  refine gl_pure 2 [1, 2, 3, 4, 5, 27, 28] (K' := [(1, .pointer (some ⟨g4, 0, none⟩)), (2, .slice (some ⟨g17, 0, none⟩) [[(⟨(⟨#[97]⟩ : ByteArray), (⟨#[49]⟩ : ByteArray)⟩ : S79)]].length 1), (3, .bool y25.1), (4, .int .i64 y25.2), (5, .int .i64 y30.1), (27, .pointer (some ⟨g4, 0, none⟩)), (28, .slice (some ⟨g17, 0, none⟩) [[(⟨(⟨#[97]⟩ : ByteArray), (⟨#[49]⟩ : ByteArray)⟩ : S79)]].length 1)]) (by kernel_rfl) ?_
  obtain ⟨y39, hx40, hr⟩ := bind_some hr
  refine gl_call (by kernel_rfl) (nflog_Log_Needs_f14_walk (r := y39) (g0 := g4) (T0 := 78) (A0_0 := A35) (c0_0 := c36) (C0_0 := C37) (a0 := y30.2) (hG.mono (Imm.trans (Imm.trans (Imm.trans (Imm.trans hI3 hJ14) hJ22) hI29) hI34)) hO38 (hf24.mono (Imm.trans hI29 hI34)) (RepS.nil _ _) hx40 _) ?_
  rintro v I41 L42 hI43 ⟨rfl, rfl⟩
  refine gl_pure 5 [1, 2, 3, 4, 5, 6, 7] (K' := [(1, .pointer (some ⟨g4, 0, none⟩)), (2, .slice (some ⟨g17, 0, none⟩) [[(⟨(⟨#[97]⟩ : ByteArray), (⟨#[49]⟩ : ByteArray)⟩ : S79)]].length 1), (3, .bool y25.1), (4, .int .i64 y25.2), (5, .int .i64 y30.1), (6, .bool y39.1), (7, .int .i64 y39.2)]) (by kernel_rfl) ?_
  refine gl_atE (by kernel_rfl) ?_
  refine ge_seq ?_
  refine gk_seq (by kernel_rfl) ?_
  refine gk_region (by kernel_rfl) ?_
  refine gl_pure 2 [3, 4, 5, 6, 7, 33, 34] (K' := [(3, .bool y25.1), (4, .int .i64 y25.2), (5, .int .i64 y30.1), (6, .bool y39.1), (7, .int .i64 y39.2), (33, .pointer (some ⟨g4, 0, none⟩)), (34, .slice (some ⟨g17, 0, none⟩) [[(⟨(⟨#[97]⟩ : ByteArray), (⟨#[49]⟩ : ByteArray)⟩ : S79)]].length 1)]) (by kernel_rfl) ?_
  obtain ⟨y44, hx45, hr⟩ := bind_some hr
  refine gl_call (by kernel_rfl) (nflog_Log_Needs_f14_walk (r := y44) (g0 := g4) (T0 := 78) (A0_0 := A35) (c0_0 := c36) (C0_0 := C37) (a0 := y30.2) (hG.mono (Imm.trans (Imm.trans (Imm.trans (Imm.trans (Imm.trans hI3 hJ14) hJ22) hI29) hI34) hI43)) (hO38.mono hI43) (hf24.mono (Imm.trans (Imm.trans hI29 hI34) hI43)) (RepS.nil _ _) hx45 _) ?_
  rintro v I46 L47 hI48 ⟨rfl, rfl⟩
  refine gl_pure 5 [3, 4, 5, 6, 7, 8, 9] (K' := [(3, .bool y25.1), (4, .int .i64 y25.2), (5, .int .i64 y30.1), (6, .bool y39.1), (7, .int .i64 y39.2), (8, .bool y44.1), (9, .int .i64 y44.2)]) (by kernel_rfl) ?_
  refine gl_atE (by kernel_rfl) ?_
  refine ge_seq ?_
  refine gk_seq (by kernel_rfl) ?_
  obtain ⟨b51, hb52⟩ : ∃ z, z = ((((((y25.1 && (y25.2 == 0)) && (y30.1 == 0)) && (!y39.1)) && (y39.2 == 0)) && y44.1) && (y44.2 == 0)) := ⟨_, rfl⟩
  refine gk_join (fun t I' L' => I46 ≤ I' ∧ (g4, .cells #[.slice A35 y30.2.f0.f0.length c36] 78) :: (C37 ++ L) = L' ∧ Knows 62 [(0, .bool b51)] t) ?_ ?_
  · refine gk_region (by kernel_rfl) ?_
    refine gl_pure 2 [4, 5, 6, 7, 8, 9, 39] (K' := [(4, .int .i64 y25.2), (5, .int .i64 y30.1), (6, .bool y39.1), (7, .int .i64 y39.2), (8, .bool y44.1), (9, .int .i64 y44.2), (39, .bool y25.1)]) (by kernel_rfl) ?_
    refine gl_case 39 (b := y25.1) (by kernel_rfl) (fun hc54 => ?_) (fun hc54 => ?_)
    · refine gl_pure 4 [5, 6, 7, 8, 9, 43] (K' := [(5, .int .i64 y30.1), (6, .bool y39.1), (7, .int .i64 y39.2), (8, .bool y44.1), (9, .int .i64 y44.2), (43, .bool (y25.2 == 0))]) (by kernel_rfl) ?_
      refine gl_case 43 (b := (y25.2 == 0)) (by kernel_rfl) (fun hc55 => ?_) (fun hc55 => ?_)
      · refine gl_pure 4 [6, 7, 8, 9, 47] (K' := [(6, .bool y39.1), (7, .int .i64 y39.2), (8, .bool y44.1), (9, .int .i64 y44.2), (47, .bool (y30.1 == 0))]) (by kernel_rfl) ?_
        refine gl_case 47 (b := (y30.1 == 0)) (by kernel_rfl) (fun hc56 => ?_) (fun hc56 => ?_)
        · refine gl_pure 4 [7, 8, 9, 51] (K' := [(7, .int .i64 y39.2), (8, .bool y44.1), (9, .int .i64 y44.2), (51, .bool (!y39.1))]) (by kernel_rfl) ?_
          refine gl_case 51 (b := (!y39.1)) (by kernel_rfl) (fun hc57 => ?_) (fun hc57 => ?_)
          · refine gl_pure 4 [8, 9, 55] (K' := [(8, .bool y44.1), (9, .int .i64 y44.2), (55, .bool (y39.2 == 0))]) (by kernel_rfl) ?_
            refine gl_case 55 (b := (y39.2 == 0)) (by kernel_rfl) (fun hc58 => ?_) (fun hc58 => ?_)
            · refine gl_pure 3 [9, 58] (K' := [(9, .int .i64 y44.2), (58, .bool y44.1)]) (by kernel_rfl) ?_
              refine gl_case 58 (b := y44.1) (by kernel_rfl) (fun hc59 => ?_) (fun hc59 => ?_)
              · refine gl_pure 4 [0] (K' := [(0, .bool (y44.2 == 0))]) (by kernel_rfl) ?_
                refine gl_atE (by kernel_rfl) ?_
                exact ge_mid fun t ht => ⟨(Imm.refl _), rfl, by rw [(show b51 = (y44.2 == 0) from hb52.trans (by rw [hc54, hc55, hc56, hc57, hc58, hc59]; try rfl))]; exact ht.pick (l := [0]) (by kernel_rfl)⟩
              · refine gl_pure 4 [0] (K' := [(0, .bool false)]) (by kernel_rfl) ?_
                refine gl_atE (by kernel_rfl) ?_
                exact ge_mid fun t ht => ⟨(Imm.refl _), rfl, by rw [(show b51 = false from hb52.trans (by rw [hc54, hc55, hc56, hc57, hc58, hc59]; try rfl))]; exact ht.pick (l := [0]) (by kernel_rfl)⟩
            · refine gl_pure 7 [0] (K' := [(0, .bool false)]) (by kernel_rfl) ?_
              refine gl_atE (by kernel_rfl) ?_
              exact ge_mid fun t ht => ⟨(Imm.refl _), rfl, by rw [(show b51 = false from hb52.trans (by rw [hc54, hc55, hc56, hc57, hc58]; try rfl))]; exact ht.pick (l := [0]) (by kernel_rfl)⟩
          · refine gl_pure 11 [0] (K' := [(0, .bool false)]) (by kernel_rfl) ?_
            refine gl_atE (by kernel_rfl) ?_
            exact ge_mid fun t ht => ⟨(Imm.refl _), rfl, by rw [(show b51 = false from hb52.trans (by rw [hc54, hc55, hc56, hc57]; try rfl))]; exact ht.pick (l := [0]) (by kernel_rfl)⟩
        · refine gl_pure 15 [0] (K' := [(0, .bool false)]) (by kernel_rfl) ?_
          refine gl_atE (by kernel_rfl) ?_
          exact ge_mid fun t ht => ⟨(Imm.refl _), rfl, by rw [(show b51 = false from hb52.trans (by rw [hc54, hc55, hc56]; try rfl))]; exact ht.pick (l := [0]) (by kernel_rfl)⟩
      · refine gl_pure 19 [0] (K' := [(0, .bool false)]) (by kernel_rfl) ?_
        refine gl_atE (by kernel_rfl) ?_
        exact ge_mid fun t ht => ⟨(Imm.refl _), rfl, by rw [(show b51 = false from hb52.trans (by rw [hc54, hc55]; try rfl))]; exact ht.pick (l := [0]) (by kernel_rfl)⟩
    · refine gl_pure 23 [0] (K' := [(0, .bool false)]) (by kernel_rfl) ?_
      refine gl_atE (by kernel_rfl) ?_
      exact ge_mid fun t ht => ⟨(Imm.refl _), rfl, by rw [(show b51 = false from hb52.trans (by rw [hc54]; try rfl))]; exact ht.pick (l := [0]) (by kernel_rfl)⟩
  · rintro t I53 L' ⟨hI49, rfl, hK50⟩
    subst hb52
    refine ge_at hK50 ?_
    refine ge_seq ?_
    refine gk_reord (D := L) (Reord.skip (Reord.skipC (Reord.refl _))) ?_
    refine gk_ret (by kernel_rfl) ?_
    obtain rfl := some_inj hr
    exact ge_result trivial (ResOk.tmp (by kernel_rfl) ResOk.nil) (Imm.trans (Imm.trans (Imm.trans (Imm.trans (Imm.trans (Imm.trans (Imm.trans hI3 hJ14) hJ22) hI29) hI34) hI43) hI48) hI49) ⟨rfl, rfl⟩
/-! 6 tocsinlaw26_NflogNil  -/
noncomputable def tocsinlaw26_NflogNil (a0 : S44) : Option Bool :=
  bif ((((nflog_Log_Put a0.f1) != 2) || (((nflog_Log_Needs a0.f1.f0 a0.f1.f1 a0.f2 a0.f3 a0.f1.f3 a0.f1.f4).2) != 2)) || (((nflog_Log_Sweep a0.f2 a0.f3).2) != 2)) then
  (some false)
  else
  (Option.bind (bif (!((nflog_Log_Find a0.f1.f0 a0.f1.f1).2)) then
      (Option.bind (tocsinref26_Same (⟨(nflog_Log_Find a0.f1.f0 a0.f1.f1).1.f0, (nflog_Log_Find a0.f1.f0 a0.f1.f1).1.f1, (nflog_Log_Find a0.f1.f0 a0.f1.f1).1.f2, (nflog_Log_Find a0.f1.f0 a0.f1.f1).1.f3, (nflog_Log_Find a0.f1.f0 a0.f1.f1).1.f4⟩ : S23) (⟨(⟨#[]⟩ : ByteArray), (⟨#[]⟩ : ByteArray), 0, [], []⟩ : S23)) fun (y26 : Bool) =>
        bif y26 then
        (bif (!((nflog_Log_Needs a0.f1.f0 a0.f1.f1 a0.f2 a0.f3 a0.f1.f3 a0.f1.f4).1)) then
          (bif (((nflog_Log_Sweep a0.f2 a0.f3).1) == 0) then
            (bif (nflog_Log_Len == 0) then
              (bif (((tocsinlaw26_every 1).length : Int) == 0) then
                (bif ((nflog_Log_Records.length : Int) == 0) then
                  (Option.bind tocsinlaw26_awake fun (y46 : Bool) =>
                    some y46)
                  else
                  (some false))
                else
                (some false))
              else
              (some false))
            else
            (some false))
          else
          (some false))
        else
        (some false))
      else
      (some false)) fun (j20 : Bool) =>
    some j20)
theorem tocsinlaw26_NflogNil_walk {a0 : S44} {A0_4 : Option Addr} {n0_4 : Nat} {A0_5 : Option Addr} {n0_5 : Nat} {I : Imm} {r : Bool} (hG : Gl I)  (hf0_4 : RepS (Kd.sl kS79) I A0_4 n0_4 a0.f1.f3) (hf0_5 : RepS (Kd.sl kS79) I A0_5 n0_5 a0.f1.f4) (hr : tocsinlaw26_NflogNil a0 = some r) (L : Own) :
    CallsTo Tryd.prog 6 #[.agg #[.int .i64 a0.f0, .string a0.f1.f0, .string a0.f1.f1, .int .i64 a0.f1.f2, .slice A0_4 a0.f1.f3.length n0_4, .slice A0_5 a0.f1.f4.length n0_5, .int .i64 a0.f2, .int .i64 a0.f3]] I L (fun v I' L' => v = .bool r ∧ L = L') := by
  unfold tocsinlaw26_NflogNil at hr
  refine callsTo_body (N := 99) Tryd.func6 (by kernel_rfl) (by kernel_rfl) (by kernel_rfl) ?_
  refine gk_pick [0] (K' := [(0, .agg #[.int .i64 a0.f0, .string a0.f1.f0, .string a0.f1.f1, .int .i64 a0.f1.f2, .slice A0_4 a0.f1.f3.length n0_4, .slice A0_5 a0.f1.f4.length n0_5, .int .i64 a0.f2, .int .i64 a0.f3])]) (by kernel_rfl) ?_
  refine gk_seq (by kernel_rfl) ?_
  refine gk_region (by kernel_rfl) ?_
  refine gl_box (T' := 45) (x := (.tmp 0)) (v := .agg #[.int .i64 a0.f0, .string a0.f1.f0, .string a0.f1.f1, .int .i64 a0.f1.f2, .slice A0_4 a0.f1.f3.length n0_4, .slice A0_5 a0.f1.f4.length n0_5, .int .i64 a0.f2, .int .i64 a0.f3]) (cs := #[.int .i64 a0.f0, .string a0.f1.f0, .string a0.f1.f1, .int .i64 a0.f1.f2, .slice A0_4 a0.f1.f3.length n0_4, .slice A0_5 a0.f1.f4.length n0_5, .int .i64 a0.f2, .int .i64 a0.f3]) (by kernel_rfl) (by kernel_rfl) (by kernel_rfl) (by kernel_rfl) (fun g1 => ?_)
  refine gl_pure 1 [1] (K' := [(1, .pointer (some ⟨g1, 0, none⟩))]) (by kernel_rfl) ?_
  refine gl_atE (by kernel_rfl) ?_
  refine ge_seq ?_
  refine gk_seq (by kernel_rfl) ?_
  refine gk_region (by kernel_rfl) ?_
  refine gl_pure 1 [1, 3] (K' := [(1, .pointer (some ⟨g1, 0, none⟩)), (3, .pointer none)]) (by kernel_rfl) ?_
  refine gl_atE (by kernel_rfl) ?_
  refine ge_seq ?_
  refine gk_seq (by kernel_rfl) ?_
  refine gk_region (by kernel_rfl) ?_
  refine gl_pure 3 [1, 3, 11, 13] (K' := [(1, .pointer (some ⟨g1, 0, none⟩)), (3, .pointer none), (11, .pointer none), (13, .pointer (some ⟨g1, 1, none⟩))]) (by kernel_rfl) ?_
  refine gl_loadB (T' := 9) (xp := (.tmp 13)) (v := .string a0.f1.f0) (g := g1) (off := 1) (cs := #[.int .i64 a0.f0, .string a0.f1.f0, .string a0.f1.f1, .int .i64 a0.f1.f2, .slice A0_4 a0.f1.f3.length n0_4, .slice A0_5 a0.f1.f4.length n0_5, .int .i64 a0.f2, .int .i64 a0.f3]) (e := 45) (fz := (0, 0)) (by kernel_rfl) (by kernel_rfl) (by kernel_rfl) List.mem_cons_self (by kernel_rfl) ?_
  refine gl_pure 2 [1, 3, 11, 14, 16] (K' := [(1, .pointer (some ⟨g1, 0, none⟩)), (3, .pointer none), (11, .pointer none), (14, .string a0.f1.f0), (16, .pointer (some ⟨g1, 2, none⟩))]) (by kernel_rfl) ?_
  refine gl_loadB (T' := 9) (xp := (.tmp 16)) (v := .string a0.f1.f1) (g := g1) (off := 2) (cs := #[.int .i64 a0.f0, .string a0.f1.f0, .string a0.f1.f1, .int .i64 a0.f1.f2, .slice A0_4 a0.f1.f3.length n0_4, .slice A0_5 a0.f1.f4.length n0_5, .int .i64 a0.f2, .int .i64 a0.f3]) (e := 45) (fz := (0, 0)) (by kernel_rfl) (by kernel_rfl) (by kernel_rfl) List.mem_cons_self (by kernel_rfl) ?_
  refine gl_call (by kernel_rfl) (nflog_Log_Find_walk (r := (nflog_Log_Find a0.f1.f0 a0.f1.f1))  rfl _) ?_
  rintro v I2 L3 hI4 ⟨A5, c6, A7, c8, hf9, hf10, rfl, rfl⟩
  refine gl_pure 3 [1, 3, 19, 20] (K' := [(1, .pointer (some ⟨g1, 0, none⟩)), (3, .pointer none), (19, .agg #[.string ((nflog_Log_Find a0.f1.f0 a0.f1.f1).1.f0), .string ((nflog_Log_Find a0.f1.f0 a0.f1.f1).1.f1), .int .i64 ((nflog_Log_Find a0.f1.f0 a0.f1.f1).1.f2), .slice A5 ((nflog_Log_Find a0.f1.f0 a0.f1.f1).1.f3).length c6, .slice A7 ((nflog_Log_Find a0.f1.f0 a0.f1.f1).1.f4).length c8]), (20, .bool ((nflog_Log_Find a0.f1.f0 a0.f1.f1).2))]) (by kernel_rfl) ?_
  refine gl_alloc (T' := 24) (cs := #[.string (⟨#[]⟩ : ByteArray), .string (⟨#[]⟩ : ByteArray), .int .i64 0, .slice none 0 0, .slice none 0 0]) (by kernel_rfl) (by kernel_rfl) (by kernel_rfl) (fun g11 => ?_)
  refine gl_storeB (T' := 24) (xp := (.tmp 4)) (xv := (.tmp 19)) (v := .agg #[.string ((nflog_Log_Find a0.f1.f0 a0.f1.f1).1.f0), .string ((nflog_Log_Find a0.f1.f0 a0.f1.f1).1.f1), .int .i64 ((nflog_Log_Find a0.f1.f0 a0.f1.f1).1.f2), .slice A5 ((nflog_Log_Find a0.f1.f0 a0.f1.f1).1.f3).length c6, .slice A7 ((nflog_Log_Find a0.f1.f0 a0.f1.f1).1.f4).length c8]) (g := g11) (off := 0) (cs := #[.string (⟨#[]⟩ : ByteArray), .string (⟨#[]⟩ : ByteArray), .int .i64 0, .slice none 0 0, .slice none 0 0]) (cs' := #[.string ((nflog_Log_Find a0.f1.f0 a0.f1.f1).1.f0), .string ((nflog_Log_Find a0.f1.f0 a0.f1.f1).1.f1), .int .i64 ((nflog_Log_Find a0.f1.f0 a0.f1.f1).1.f2), .slice A5 ((nflog_Log_Find a0.f1.f0 a0.f1.f1).1.f3).length c6, .slice A7 ((nflog_Log_Find a0.f1.f0 a0.f1.f1).1.f4).length c8]) (by kernel_rfl) (by kernel_rfl) (by kernel_rfl) (by kernel_rfl) (by kernel_rfl) (Upd.set _ _ _ _) ?_ (by kernel_rfl)
  refine gl_pure 1 [1, 3, 4, 5] (K' := [(1, .pointer (some ⟨g1, 0, none⟩)), (3, .pointer none), (4, .pointer (some ⟨g11, 0, none⟩)), (5, .bool ((nflog_Log_Find a0.f1.f0 a0.f1.f1).2))]) (by kernel_rfl) ?_
  refine gl_atE (by kernel_rfl) ?_
  refine ge_seq ?_
  refine gk_seq (by kernel_rfl) ?_
  refine gk_region (by kernel_rfl) ?_
  refine gl_pure 3 [1, 3, 4, 5, 22, 24] (K' := [(1, .pointer (some ⟨g1, 0, none⟩)), (3, .pointer none), (4, .pointer (some ⟨g11, 0, none⟩)), (5, .bool ((nflog_Log_Find a0.f1.f0 a0.f1.f1).2)), (22, .pointer none), (24, .pointer (some ⟨g1, 1, none⟩))]) (by kernel_rfl) ?_
  refine gl_loadB (T' := 9) (xp := (.tmp 24)) (v := .string a0.f1.f0) (g := g1) (off := 1) (cs := #[.int .i64 a0.f0, .string a0.f1.f0, .string a0.f1.f1, .int .i64 a0.f1.f2, .slice A0_4 a0.f1.f3.length n0_4, .slice A0_5 a0.f1.f4.length n0_5, .int .i64 a0.f2, .int .i64 a0.f3]) (e := 45) (fz := (0, 0)) (by kernel_rfl) (by kernel_rfl) (by kernel_rfl) (List.mem_cons_of_mem _ List.mem_cons_self) (by kernel_rfl) ?_
  refine gl_pure 2 [1, 3, 4, 5, 22, 25, 27] (K' := [(1, .pointer (some ⟨g1, 0, none⟩)), (3, .pointer none), (4, .pointer (some ⟨g11, 0, none⟩)), (5, .bool ((nflog_Log_Find a0.f1.f0 a0.f1.f1).2)), (22, .pointer none), (25, .string a0.f1.f0), (27, .pointer (some ⟨g1, 2, none⟩))]) (by kernel_rfl) ?_
  refine gl_loadB (T' := 9) (xp := (.tmp 27)) (v := .string a0.f1.f1) (g := g1) (off := 2) (cs := #[.int .i64 a0.f0, .string a0.f1.f0, .string a0.f1.f1, .int .i64 a0.f1.f2, .slice A0_4 a0.f1.f3.length n0_4, .slice A0_5 a0.f1.f4.length n0_5, .int .i64 a0.f2, .int .i64 a0.f3]) (e := 45) (fz := (0, 0)) (by kernel_rfl) (by kernel_rfl) (by kernel_rfl) (List.mem_cons_of_mem _ List.mem_cons_self) (by kernel_rfl) ?_
  refine gl_pure 1 [1, 3, 4, 5, 22, 25, 28, 29] (K' := [(1, .pointer (some ⟨g1, 0, none⟩)), (3, .pointer none), (4, .pointer (some ⟨g11, 0, none⟩)), (5, .bool ((nflog_Log_Find a0.f1.f0 a0.f1.f1).2)), (22, .pointer none), (25, .string a0.f1.f0), (28, .string a0.f1.f1), (29, .pointer (some ⟨g1, 6, none⟩))]) (by kernel_rfl) ?_
  refine gl_loadB (T' := 2) (xp := (.tmp 29)) (v := .int .i64 a0.f2) (g := g1) (off := 6) (cs := #[.int .i64 a0.f0, .string a0.f1.f0, .string a0.f1.f1, .int .i64 a0.f1.f2, .slice A0_4 a0.f1.f3.length n0_4, .slice A0_5 a0.f1.f4.length n0_5, .int .i64 a0.f2, .int .i64 a0.f3]) (e := 45) (fz := (0, 0)) (by kernel_rfl) (by kernel_rfl) (by kernel_rfl) (List.mem_cons_of_mem _ List.mem_cons_self) (by kernel_rfl) ?_
  refine gl_pure 1 [1, 3, 4, 5, 22, 25, 28, 30, 31] (K' := [(1, .pointer (some ⟨g1, 0, none⟩)), (3, .pointer none), (4, .pointer (some ⟨g11, 0, none⟩)), (5, .bool ((nflog_Log_Find a0.f1.f0 a0.f1.f1).2)), (22, .pointer none), (25, .string a0.f1.f0), (28, .string a0.f1.f1), (30, .int .i64 a0.f2), (31, .pointer (some ⟨g1, 7, none⟩))]) (by kernel_rfl) ?_
  refine gl_loadB (T' := 2) (xp := (.tmp 31)) (v := .int .i64 a0.f3) (g := g1) (off := 7) (cs := #[.int .i64 a0.f0, .string a0.f1.f0, .string a0.f1.f1, .int .i64 a0.f1.f2, .slice A0_4 a0.f1.f3.length n0_4, .slice A0_5 a0.f1.f4.length n0_5, .int .i64 a0.f2, .int .i64 a0.f3]) (e := 45) (fz := (0, 0)) (by kernel_rfl) (by kernel_rfl) (by kernel_rfl) (List.mem_cons_of_mem _ List.mem_cons_self) (by kernel_rfl) ?_
  refine gl_pure 2 [1, 3, 4, 5, 22, 25, 28, 30, 32, 34] (K' := [(1, .pointer (some ⟨g1, 0, none⟩)), (3, .pointer none), (4, .pointer (some ⟨g11, 0, none⟩)), (5, .bool ((nflog_Log_Find a0.f1.f0 a0.f1.f1).2)), (22, .pointer none), (25, .string a0.f1.f0), (28, .string a0.f1.f1), (30, .int .i64 a0.f2), (32, .int .i64 a0.f3), (34, .pointer (some ⟨g1, 4, none⟩))]) (by kernel_rfl) ?_
  refine gl_loadB (T' := 22) (xp := (.tmp 34)) (v := .slice A0_4 a0.f1.f3.length n0_4) (g := g1) (off := 4) (cs := #[.int .i64 a0.f0, .string a0.f1.f0, .string a0.f1.f1, .int .i64 a0.f1.f2, .slice A0_4 a0.f1.f3.length n0_4, .slice A0_5 a0.f1.f4.length n0_5, .int .i64 a0.f2, .int .i64 a0.f3]) (e := 45) (fz := (0, 0)) (by kernel_rfl) (by kernel_rfl) (by kernel_rfl) (List.mem_cons_of_mem _ List.mem_cons_self) (by kernel_rfl) ?_
  refine gl_pure 2 [1, 3, 4, 5, 22, 25, 28, 30, 32, 35, 37] (K' := [(1, .pointer (some ⟨g1, 0, none⟩)), (3, .pointer none), (4, .pointer (some ⟨g11, 0, none⟩)), (5, .bool ((nflog_Log_Find a0.f1.f0 a0.f1.f1).2)), (22, .pointer none), (25, .string a0.f1.f0), (28, .string a0.f1.f1), (30, .int .i64 a0.f2), (32, .int .i64 a0.f3), (35, .slice A0_4 a0.f1.f3.length n0_4), (37, .pointer (some ⟨g1, 5, none⟩))]) (by kernel_rfl) ?_
  refine gl_loadB (T' := 22) (xp := (.tmp 37)) (v := .slice A0_5 a0.f1.f4.length n0_5) (g := g1) (off := 5) (cs := #[.int .i64 a0.f0, .string a0.f1.f0, .string a0.f1.f1, .int .i64 a0.f1.f2, .slice A0_4 a0.f1.f3.length n0_4, .slice A0_5 a0.f1.f4.length n0_5, .int .i64 a0.f2, .int .i64 a0.f3]) (e := 45) (fz := (0, 0)) (by kernel_rfl) (by kernel_rfl) (by kernel_rfl) (List.mem_cons_of_mem _ List.mem_cons_self) (by kernel_rfl) ?_
  refine gl_callQ (by kernel_rfl) (nflog_Log_Needs_walk (r := (nflog_Log_Needs a0.f1.f0 a0.f1.f1 a0.f2 a0.f3 a0.f1.f3 a0.f1.f4)) (hf0_4.mono hI4) (hf0_5.mono hI4) rfl _) ?_
  refine gl_pure 5 [1, 3, 4, 5, 6, 7] (K' := [(1, .pointer (some ⟨g1, 0, none⟩)), (3, .pointer none), (4, .pointer (some ⟨g11, 0, none⟩)), (5, .bool ((nflog_Log_Find a0.f1.f0 a0.f1.f1).2)), (6, .bool ((nflog_Log_Needs a0.f1.f0 a0.f1.f1 a0.f2 a0.f3 a0.f1.f3 a0.f1.f4).1)), (7, .int .i64 ((nflog_Log_Needs a0.f1.f0 a0.f1.f1 a0.f2 a0.f3 a0.f1.f3 a0.f1.f4).2))]) (by kernel_rfl) ?_
  refine gl_atE (by kernel_rfl) ?_
  refine ge_seq ?_
  refine gk_seq (by kernel_rfl) ?_
  refine gk_region (by kernel_rfl) ?_
  refine gl_pure 2 [1, 3, 4, 5, 6, 7, 43, 44] (K' := [(1, .pointer (some ⟨g1, 0, none⟩)), (3, .pointer none), (4, .pointer (some ⟨g11, 0, none⟩)), (5, .bool ((nflog_Log_Find a0.f1.f0 a0.f1.f1).2)), (6, .bool ((nflog_Log_Needs a0.f1.f0 a0.f1.f1 a0.f2 a0.f3 a0.f1.f3 a0.f1.f4).1)), (7, .int .i64 ((nflog_Log_Needs a0.f1.f0 a0.f1.f1 a0.f2 a0.f3 a0.f1.f3 a0.f1.f4).2)), (43, .pointer none), (44, .pointer (some ⟨g1, 6, none⟩))]) (by kernel_rfl) ?_
  refine gl_loadB (T' := 2) (xp := (.tmp 44)) (v := .int .i64 a0.f2) (g := g1) (off := 6) (cs := #[.int .i64 a0.f0, .string a0.f1.f0, .string a0.f1.f1, .int .i64 a0.f1.f2, .slice A0_4 a0.f1.f3.length n0_4, .slice A0_5 a0.f1.f4.length n0_5, .int .i64 a0.f2, .int .i64 a0.f3]) (e := 45) (fz := (0, 0)) (by kernel_rfl) (by kernel_rfl) (by kernel_rfl) (List.mem_cons_of_mem _ List.mem_cons_self) (by kernel_rfl) ?_
  refine gl_pure 1 [1, 3, 4, 5, 6, 7, 43, 45, 46] (K' := [(1, .pointer (some ⟨g1, 0, none⟩)), (3, .pointer none), (4, .pointer (some ⟨g11, 0, none⟩)), (5, .bool ((nflog_Log_Find a0.f1.f0 a0.f1.f1).2)), (6, .bool ((nflog_Log_Needs a0.f1.f0 a0.f1.f1 a0.f2 a0.f3 a0.f1.f3 a0.f1.f4).1)), (7, .int .i64 ((nflog_Log_Needs a0.f1.f0 a0.f1.f1 a0.f2 a0.f3 a0.f1.f3 a0.f1.f4).2)), (43, .pointer none), (45, .int .i64 a0.f2), (46, .pointer (some ⟨g1, 7, none⟩))]) (by kernel_rfl) ?_
  refine gl_loadB (T' := 2) (xp := (.tmp 46)) (v := .int .i64 a0.f3) (g := g1) (off := 7) (cs := #[.int .i64 a0.f0, .string a0.f1.f0, .string a0.f1.f1, .int .i64 a0.f1.f2, .slice A0_4 a0.f1.f3.length n0_4, .slice A0_5 a0.f1.f4.length n0_5, .int .i64 a0.f2, .int .i64 a0.f3]) (e := 45) (fz := (0, 0)) (by kernel_rfl) (by kernel_rfl) (by kernel_rfl) (List.mem_cons_of_mem _ List.mem_cons_self) (by kernel_rfl) ?_
  refine gl_callQ (by kernel_rfl) (nflog_Log_Sweep_walk (r := (nflog_Log_Sweep a0.f2 a0.f3))  rfl _) ?_
  refine gl_pure 5 [1, 3, 4, 5, 6, 7, 8, 9] (K' := [(1, .pointer (some ⟨g1, 0, none⟩)), (3, .pointer none), (4, .pointer (some ⟨g11, 0, none⟩)), (5, .bool ((nflog_Log_Find a0.f1.f0 a0.f1.f1).2)), (6, .bool ((nflog_Log_Needs a0.f1.f0 a0.f1.f1 a0.f2 a0.f3 a0.f1.f3 a0.f1.f4).1)), (7, .int .i64 ((nflog_Log_Needs a0.f1.f0 a0.f1.f1 a0.f2 a0.f3 a0.f1.f3 a0.f1.f4).2)), (8, .int .i64 ((nflog_Log_Sweep a0.f2 a0.f3).1)), (9, .int .i64 ((nflog_Log_Sweep a0.f2 a0.f3).2))]) (by kernel_rfl) ?_
  refine gl_atE (by kernel_rfl) ?_
  refine ge_seq ?_
  refine gk_seq (by kernel_rfl) ?_
  refine gk_seq (by kernel_rfl) ?_
  obtain ⟨b14, hb15⟩ : ∃ z, z = ((((nflog_Log_Put a0.f1) != 2) || (((nflog_Log_Needs a0.f1.f0 a0.f1.f1 a0.f2 a0.f3 a0.f1.f3 a0.f1.f4).2) != 2)) || (((nflog_Log_Sweep a0.f2 a0.f3).2) != 2)) := ⟨_, rfl⟩
  refine gk_join (fun t I' L' => I2 ≤ I' ∧ (g11, .cells #[.string ((nflog_Log_Find a0.f1.f0 a0.f1.f1).1.f0), .string ((nflog_Log_Find a0.f1.f0 a0.f1.f1).1.f1), .int .i64 ((nflog_Log_Find a0.f1.f0 a0.f1.f1).1.f2), .slice A5 ((nflog_Log_Find a0.f1.f0 a0.f1.f1).1.f3).length c6, .slice A7 ((nflog_Log_Find a0.f1.f0 a0.f1.f1).1.f4).length c8] 24) :: ((g1, .cells #[.int .i64 a0.f0, .string a0.f1.f0, .string a0.f1.f1, .int .i64 a0.f1.f2, .slice A0_4 a0.f1.f3.length n0_4, .slice A0_5 a0.f1.f4.length n0_5, .int .i64 a0.f2, .int .i64 a0.f3] 45) :: L) = L' ∧ Knows 99 [(3, .pointer none), (4, .pointer (some ⟨g11, 0, none⟩)), (5, .bool ((nflog_Log_Find a0.f1.f0 a0.f1.f1).2)), (6, .bool ((nflog_Log_Needs a0.f1.f0 a0.f1.f1 a0.f2 a0.f3 a0.f1.f3 a0.f1.f4).1)), (8, .int .i64 ((nflog_Log_Sweep a0.f2 a0.f3).1)), (63, .bool b14)] t) ?_ ?_
  · refine gk_region (by kernel_rfl) ?_
    refine gl_pure 2 [3, 4, 5, 6, 7, 8, 9, 51, 52] (K' := [(3, .pointer none), (4, .pointer (some ⟨g11, 0, none⟩)), (5, .bool ((nflog_Log_Find a0.f1.f0 a0.f1.f1).2)), (6, .bool ((nflog_Log_Needs a0.f1.f0 a0.f1.f1 a0.f2 a0.f3 a0.f1.f3 a0.f1.f4).1)), (7, .int .i64 ((nflog_Log_Needs a0.f1.f0 a0.f1.f1 a0.f2 a0.f3 a0.f1.f3 a0.f1.f4).2)), (8, .int .i64 ((nflog_Log_Sweep a0.f2 a0.f3).1)), (9, .int .i64 ((nflog_Log_Sweep a0.f2 a0.f3).2)), (51, .pointer none), (52, .pointer (some ⟨g1, 1, none⟩))]) (by kernel_rfl) ?_
    refine gl_loadB (T' := 24) (xp := (.tmp 52)) (v := .agg #[.string a0.f1.f0, .string a0.f1.f1, .int .i64 a0.f1.f2, .slice A0_4 a0.f1.f3.length n0_4, .slice A0_5 a0.f1.f4.length n0_5]) (g := g1) (off := 1) (cs := #[.int .i64 a0.f0, .string a0.f1.f0, .string a0.f1.f1, .int .i64 a0.f1.f2, .slice A0_4 a0.f1.f3.length n0_4, .slice A0_5 a0.f1.f4.length n0_5, .int .i64 a0.f2, .int .i64 a0.f3]) (e := 45) (fz := (0, 0)) (by kernel_rfl) (by kernel_rfl) (by kernel_rfl) (List.mem_cons_of_mem _ List.mem_cons_self) (by kernel_rfl) ?_
    refine gl_callQ (by kernel_rfl) (nflog_Log_Put_walk (r := (nflog_Log_Put a0.f1)) (hf0_4.mono hI4) (hf0_5.mono hI4) rfl _) ?_
    refine gl_pure 2 [3, 4, 5, 6, 7, 8, 9, 56] (K' := [(3, .pointer none), (4, .pointer (some ⟨g11, 0, none⟩)), (5, .bool ((nflog_Log_Find a0.f1.f0 a0.f1.f1).2)), (6, .bool ((nflog_Log_Needs a0.f1.f0 a0.f1.f1 a0.f2 a0.f3 a0.f1.f3 a0.f1.f4).1)), (7, .int .i64 ((nflog_Log_Needs a0.f1.f0 a0.f1.f1 a0.f2 a0.f3 a0.f1.f3 a0.f1.f4).2)), (8, .int .i64 ((nflog_Log_Sweep a0.f2 a0.f3).1)), (9, .int .i64 ((nflog_Log_Sweep a0.f2 a0.f3).2)), (56, .bool ((nflog_Log_Put a0.f1) != 2))]) (by kernel_rfl) ?_
    refine gl_case 56 (b := ((nflog_Log_Put a0.f1) != 2)) (by kernel_rfl) (fun hc17 => ?_) (fun hc17 => ?_)
    · refine gl_pure 7 [3, 4, 5, 6, 8, 63] (K' := [(3, .pointer none), (4, .pointer (some ⟨g11, 0, none⟩)), (5, .bool ((nflog_Log_Find a0.f1.f0 a0.f1.f1).2)), (6, .bool ((nflog_Log_Needs a0.f1.f0 a0.f1.f1 a0.f2 a0.f3 a0.f1.f3 a0.f1.f4).1)), (8, .int .i64 ((nflog_Log_Sweep a0.f2 a0.f3).1)), (63, .bool true)]) (by kernel_rfl) ?_
      refine gl_atE (by kernel_rfl) ?_
      exact ge_mid fun t ht => ⟨(Imm.refl _), rfl, by rw [(show b14 = true from hb15.trans (by rw [hc17]; try rfl))]; exact ht.pick (l := [3, 4, 5, 6, 8, 63]) (by kernel_rfl)⟩
    · refine gl_pure 4 [3, 4, 5, 6, 8, 9, 60] (K' := [(3, .pointer none), (4, .pointer (some ⟨g11, 0, none⟩)), (5, .bool ((nflog_Log_Find a0.f1.f0 a0.f1.f1).2)), (6, .bool ((nflog_Log_Needs a0.f1.f0 a0.f1.f1 a0.f2 a0.f3 a0.f1.f3 a0.f1.f4).1)), (8, .int .i64 ((nflog_Log_Sweep a0.f2 a0.f3).1)), (9, .int .i64 ((nflog_Log_Sweep a0.f2 a0.f3).2)), (60, .bool (((nflog_Log_Needs a0.f1.f0 a0.f1.f1 a0.f2 a0.f3 a0.f1.f3 a0.f1.f4).2) != 2))]) (by kernel_rfl) ?_
      refine gl_case 60 (b := (((nflog_Log_Needs a0.f1.f0 a0.f1.f1 a0.f2 a0.f3 a0.f1.f3 a0.f1.f4).2) != 2)) (by kernel_rfl) (fun hc18 => ?_) (fun hc18 => ?_)
      · refine gl_pure 3 [3, 4, 5, 6, 8, 63] (K' := [(3, .pointer none), (4, .pointer (some ⟨g11, 0, none⟩)), (5, .bool ((nflog_Log_Find a0.f1.f0 a0.f1.f1).2)), (6, .bool ((nflog_Log_Needs a0.f1.f0 a0.f1.f1 a0.f2 a0.f3 a0.f1.f3 a0.f1.f4).1)), (8, .int .i64 ((nflog_Log_Sweep a0.f2 a0.f3).1)), (63, .bool true)]) (by kernel_rfl) ?_
        refine gl_atE (by kernel_rfl) ?_
        exact ge_mid fun t ht => ⟨(Imm.refl _), rfl, by rw [(show b14 = true from hb15.trans (by rw [hc17, hc18]; try rfl))]; exact ht.pick (l := [3, 4, 5, 6, 8, 63]) (by kernel_rfl)⟩
      · refine gl_pure 3 [3, 4, 5, 6, 8, 63] (K' := [(3, .pointer none), (4, .pointer (some ⟨g11, 0, none⟩)), (5, .bool ((nflog_Log_Find a0.f1.f0 a0.f1.f1).2)), (6, .bool ((nflog_Log_Needs a0.f1.f0 a0.f1.f1 a0.f2 a0.f3 a0.f1.f3 a0.f1.f4).1)), (8, .int .i64 ((nflog_Log_Sweep a0.f2 a0.f3).1)), (63, .bool (((nflog_Log_Sweep a0.f2 a0.f3).2) != 2))]) (by kernel_rfl) ?_
        refine gl_atE (by kernel_rfl) ?_
        exact ge_mid fun t ht => ⟨(Imm.refl _), rfl, by rw [(show b14 = (((nflog_Log_Sweep a0.f2 a0.f3).2) != 2) from hb15.trans (by rw [hc17, hc18]; try rfl))]; exact ht.pick (l := [3, 4, 5, 6, 8, 63]) (by kernel_rfl)⟩
  · rintro t I16 L' ⟨hI12, rfl, hK13⟩
    subst hb15
    refine ge_at hK13 ?_
    refine ge_seq ?_
    refine gk_cond (b := ((((nflog_Log_Put a0.f1) != 2) || (((nflog_Log_Needs a0.f1.f0 a0.f1.f1 a0.f2 a0.f3 a0.f1.f3 a0.f1.f4).2) != 2)) || (((nflog_Log_Sweep a0.f2 a0.f3).2) != 2))) (by kernel_rfl) (by kernel_rfl) (fun hc19 => ?_) (fun hc19 => ?_)
    · have hr := cond_t hc19 hr
      refine gk_seq (by kernel_rfl) ?_
      refine gk_region (by kernel_rfl) ?_
      refine gl_pure 1 [2] (K' := [(2, .bool false)]) (by kernel_rfl) ?_
      refine gl_atE (by kernel_rfl) ?_
      refine ge_seq ?_
      refine gk_reord (D := L) (Reord.skip (Reord.skip (Reord.refl _))) ?_
      refine gk_ret (by kernel_rfl) ?_
      refine ge_seq_ret ?_
      obtain rfl := some_inj hr
      exact ge_result trivial (ResOk.tmp (by kernel_rfl) ResOk.nil) (Imm.trans hI4 hI12) ⟨rfl, rfl⟩
    · have hr := cond_f hc19 hr
      refine gk_skip (by kernel_rfl) ?_
      refine ge_seq ?_
      refine gk_seq (by kernel_rfl) ?_
      obtain ⟨j20, hj21, hr⟩ := bind_some hr
      refine gk_join (fun t I' L' => I16 ≤ I' ∧ L = L' ∧ Knows 99 [(2, .bool j20)] t) ?_ ?_
      · refine gk_region (by kernel_rfl) ?_
        refine gl_pure 3 [3, 4, 6, 8, 66] (K' := [(3, .pointer none), (4, .pointer (some ⟨g11, 0, none⟩)), (6, .bool ((nflog_Log_Needs a0.f1.f0 a0.f1.f1 a0.f2 a0.f3 a0.f1.f3 a0.f1.f4).1)), (8, .int .i64 ((nflog_Log_Sweep a0.f2 a0.f3).1)), (66, .bool (!((nflog_Log_Find a0.f1.f0 a0.f1.f1).2)))]) (by kernel_rfl) ?_
        refine gl_case 66 (b := (!((nflog_Log_Find a0.f1.f0 a0.f1.f1).2))) (by kernel_rfl) (fun hc25 => ?_) (fun hc25 => ?_)
        · have hj21 := cond_t hc25 hj21
          refine gl_loadB (T' := 24) (xp := (.tmp 4)) (v := .agg #[.string ((nflog_Log_Find a0.f1.f0 a0.f1.f1).1.f0), .string ((nflog_Log_Find a0.f1.f0 a0.f1.f1).1.f1), .int .i64 ((nflog_Log_Find a0.f1.f0 a0.f1.f1).1.f2), .slice A5 ((nflog_Log_Find a0.f1.f0 a0.f1.f1).1.f3).length c6, .slice A7 ((nflog_Log_Find a0.f1.f0 a0.f1.f1).1.f4).length c8]) (g := g11) (off := 0) (cs := #[.string ((nflog_Log_Find a0.f1.f0 a0.f1.f1).1.f0), .string ((nflog_Log_Find a0.f1.f0 a0.f1.f1).1.f1), .int .i64 ((nflog_Log_Find a0.f1.f0 a0.f1.f1).1.f2), .slice A5 ((nflog_Log_Find a0.f1.f0 a0.f1.f1).1.f3).length c6, .slice A7 ((nflog_Log_Find a0.f1.f0 a0.f1.f1).1.f4).length c8]) (e := 24) (fz := (0, 0)) (by kernel_rfl) (by kernel_rfl) (by kernel_rfl) List.mem_cons_self (by kernel_rfl) ?_
          refine gl_pure 1 [3, 6, 8, 66, 67, 68] (K' := [(3, .pointer none), (6, .bool ((nflog_Log_Needs a0.f1.f0 a0.f1.f1 a0.f2 a0.f3 a0.f1.f3 a0.f1.f4).1)), (8, .int .i64 ((nflog_Log_Sweep a0.f2 a0.f3).1)), (66, .bool true), (67, .agg #[.string ((nflog_Log_Find a0.f1.f0 a0.f1.f1).1.f0), .string ((nflog_Log_Find a0.f1.f0 a0.f1.f1).1.f1), .int .i64 ((nflog_Log_Find a0.f1.f0 a0.f1.f1).1.f2), .slice A5 ((nflog_Log_Find a0.f1.f0 a0.f1.f1).1.f3).length c6, .slice A7 ((nflog_Log_Find a0.f1.f0 a0.f1.f1).1.f4).length c8]), (68, .agg #[.string (⟨#[]⟩ : ByteArray), .string (⟨#[]⟩ : ByteArray), .int .i64 0, .slice none 0 0, .slice none 0 0])]) (by kernel_rfl) ?_
          obtain ⟨y26, hx27, hj21⟩ := bind_some hj21
          refine gl_callQ (by kernel_rfl) (tocsinref26_Same_walk (r := y26) (hf9.mono hI12) (hf10.mono hI12) (RepS.nil _ _) (RepS.nil _ _) hx27 _) ?_
          refine gl_pure 2 [3, 6, 8, 71] (K' := [(3, .pointer none), (6, .bool ((nflog_Log_Needs a0.f1.f0 a0.f1.f1 a0.f2 a0.f3 a0.f1.f3 a0.f1.f4).1)), (8, .int .i64 ((nflog_Log_Sweep a0.f2 a0.f3).1)), (71, .bool y26)]) (by kernel_rfl) ?_
          refine gl_case 71 (b := y26) (by kernel_rfl) (fun hc28 => ?_) (fun hc28 => ?_)
          · have hj21 := cond_t hc28 hj21
            refine gl_pure 4 [3, 8, 75] (K' := [(3, .pointer none), (8, .int .i64 ((nflog_Log_Sweep a0.f2 a0.f3).1)), (75, .bool (!((nflog_Log_Needs a0.f1.f0 a0.f1.f1 a0.f2 a0.f3 a0.f1.f3 a0.f1.f4).1)))]) (by kernel_rfl) ?_
            refine gl_case 75 (b := (!((nflog_Log_Needs a0.f1.f0 a0.f1.f1 a0.f2 a0.f3 a0.f1.f3 a0.f1.f4).1))) (by kernel_rfl) (fun hc29 => ?_) (fun hc29 => ?_)
            · have hj21 := cond_t hc29 hj21
              refine gl_pure 4 [3, 79] (K' := [(3, .pointer none), (79, .bool (((nflog_Log_Sweep a0.f2 a0.f3).1) == 0))]) (by kernel_rfl) ?_
              refine gl_case 79 (b := (((nflog_Log_Sweep a0.f2 a0.f3).1) == 0)) (by kernel_rfl) (fun hc30 => ?_) (fun hc30 => ?_)
              · have hj21 := cond_t hc30 hj21
                refine gl_pure 1 [3, 79, 80] (K' := [(3, .pointer none), (79, .bool true), (80, .pointer none)]) (by kernel_rfl) ?_
                refine gl_callQ (by kernel_rfl) (nflog_Log_Len_walk (r := nflog_Log_Len)  rfl _) ?_
                refine gl_pure 3 [3, 84] (K' := [(3, .pointer none), (84, .bool (nflog_Log_Len == 0))]) (by kernel_rfl) ?_
                refine gl_case 84 (b := (nflog_Log_Len == 0)) (by kernel_rfl) (fun hc31 => ?_) (fun hc31 => ?_)
                · have hj21 := cond_t hc31 hj21
                  refine gl_pure 1 [3, 84, 85] (K' := [(3, .pointer none), (84, .bool true), (85, .pointer none)]) (by kernel_rfl) ?_
                  refine gl_call (by kernel_rfl) (tocsinlaw26_every_walk (r := (tocsinlaw26_every 1)) (hG.mono (Imm.trans hI4 hI12)) rfl _) ?_
                  rintro v I32 L33 hI34 ⟨A35, c36, hf37, rfl, rfl⟩
                  refine gl_pure 4 [3, 90] (K' := [(3, .pointer none), (90, .bool (((tocsinlaw26_every 1).length : Int) == 0))]) (by kernel_rfl) ?_
                  refine gl_case 90 (b := (((tocsinlaw26_every 1).length : Int) == 0)) (by kernel_rfl) (fun hc38 => ?_) (fun hc38 => ?_)
                  · have hj21 := cond_t hc38 hj21
                    refine gl_pure 1 [90, 91] (K' := [(90, .bool true), (91, .pointer none)]) (by kernel_rfl) ?_
                    refine gl_call (by kernel_rfl) (nflog_Log_Records_walk (r := nflog_Log_Records) (hG.mono (Imm.trans (Imm.trans hI4 hI12) hI34)) rfl _) ?_
                    rintro v I39 L40 hI41 ⟨A42, c43, hf44, rfl, rfl⟩
                    refine gl_pure 4 [96] (K' := [(96, .bool ((nflog_Log_Records.length : Int) == 0))]) (by kernel_rfl) ?_
                    refine gl_case 96 (b := ((nflog_Log_Records.length : Int) == 0)) (by kernel_rfl) (fun hc45 => ?_) (fun hc45 => ?_)
                    · have hj21 := cond_t hc45 hj21
                      obtain ⟨y46, hx47, hj21⟩ := bind_some hj21
                      refine gl_callQ (by kernel_rfl) (tocsinlaw26_awake_walk (r := y46) (hG.mono (Imm.trans (Imm.trans (Imm.trans hI4 hI12) hI34) hI41)) hx47 _) ?_
                      refine gl_pure 2 [2] (K' := [(2, .bool y46)]) (by kernel_rfl) ?_
                      refine gl_reord (D := L) (Reord.skip (Reord.skip (Reord.refl _))) ?_
                      refine gl_atE (by kernel_rfl) ?_
                      obtain rfl := some_inj hj21
                      exact ge_mid fun t ht => ⟨(Imm.trans hI34 hI41), rfl, ht.pick (l := [2]) (by kernel_rfl)⟩
                    · have hj21 := cond_f hc45 hj21
                      refine gl_pure 3 [2] (K' := [(2, .bool false)]) (by kernel_rfl) ?_
                      refine gl_reord (D := L) (Reord.skip (Reord.skip (Reord.refl _))) ?_
                      refine gl_atE (by kernel_rfl) ?_
                      obtain rfl := some_inj hj21
                      exact ge_mid fun t ht => ⟨(Imm.trans hI34 hI41), rfl, ht.pick (l := [2]) (by kernel_rfl)⟩
                  · have hj21 := cond_f hc38 hj21
                    refine gl_pure 9 [2] (K' := [(2, .bool false)]) (by kernel_rfl) ?_
                    refine gl_reord (D := L) (Reord.skip (Reord.skip (Reord.refl _))) ?_
                    refine gl_atE (by kernel_rfl) ?_
                    obtain rfl := some_inj hj21
                    exact ge_mid fun t ht => ⟨hI34, rfl, ht.pick (l := [2]) (by kernel_rfl)⟩
                · have hj21 := cond_f hc31 hj21
                  refine gl_pure 15 [2] (K' := [(2, .bool false)]) (by kernel_rfl) ?_
                  refine gl_reord (D := L) (Reord.skip (Reord.skip (Reord.refl _))) ?_
                  refine gl_atE (by kernel_rfl) ?_
                  obtain rfl := some_inj hj21
                  exact ge_mid fun t ht => ⟨(Imm.refl _), rfl, ht.pick (l := [2]) (by kernel_rfl)⟩
              · have hj21 := cond_f hc30 hj21
                refine gl_pure 20 [2] (K' := [(2, .bool false)]) (by kernel_rfl) ?_
                refine gl_reord (D := L) (Reord.skip (Reord.skip (Reord.refl _))) ?_
                refine gl_atE (by kernel_rfl) ?_
                obtain rfl := some_inj hj21
                exact ge_mid fun t ht => ⟨(Imm.refl _), rfl, ht.pick (l := [2]) (by kernel_rfl)⟩
            · have hj21 := cond_f hc29 hj21
              refine gl_pure 24 [2] (K' := [(2, .bool false)]) (by kernel_rfl) ?_
              refine gl_reord (D := L) (Reord.skip (Reord.skip (Reord.refl _))) ?_
              refine gl_atE (by kernel_rfl) ?_
              obtain rfl := some_inj hj21
              exact ge_mid fun t ht => ⟨(Imm.refl _), rfl, ht.pick (l := [2]) (by kernel_rfl)⟩
          · have hj21 := cond_f hc28 hj21
            refine gl_pure 28 [2] (K' := [(2, .bool false)]) (by kernel_rfl) ?_
            refine gl_reord (D := L) (Reord.skip (Reord.skip (Reord.refl _))) ?_
            refine gl_atE (by kernel_rfl) ?_
            obtain rfl := some_inj hj21
            exact ge_mid fun t ht => ⟨(Imm.refl _), rfl, ht.pick (l := [2]) (by kernel_rfl)⟩
        · have hj21 := cond_f hc25 hj21
          refine gl_pure 33 [2] (K' := [(2, .bool false)]) (by kernel_rfl) ?_
          refine gl_reord (D := L) (Reord.skip (Reord.skip (Reord.refl _))) ?_
          refine gl_atE (by kernel_rfl) ?_
          obtain rfl := some_inj hj21
          exact ge_mid fun t ht => ⟨(Imm.refl _), rfl, ht.pick (l := [2]) (by kernel_rfl)⟩
      · rintro t I24 L' ⟨hI22, rfl, hK23⟩
        refine ge_at hK23 ?_
        refine ge_seq ?_
        refine gk_ret (by kernel_rfl) ?_
        obtain rfl := some_inj hr
        exact ge_result trivial (ResOk.tmp (by kernel_rfl) ResOk.nil) (Imm.trans (Imm.trans hI4 hI12) hI22) ⟨rfl, rfl⟩
end Go.Proofs.YtlkmfhccpcncnaaDoor
