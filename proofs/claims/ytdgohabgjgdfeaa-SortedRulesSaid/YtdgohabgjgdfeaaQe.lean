/- The law SortedRules, walked. -/
import Derived.Test.YtdgohabgjgdfeaaQa
namespace Go.Proofs.Ytdgohabgjgdfeaa
open Go Go.RowKit
set_option linter.unusedSimpArgs false
set_option linter.unusedVariables false
set_option maxRecDepth 100000
set_option maxHeartbeats 2000000
theorem rules_long (a b c : List Int) (h : 60 < a.length ∨ 60 < b.length ∨ 60 < c.length) : VCall Try.prog 5 [roI a, roI b, roI c] ⟨[], 0⟩ (fun v K => v = booV true) := by
  refine VCall.go Try.func5 rfl ?_
  repeat' (first | (with_reducible refine And.intro ?_ ?_) | ((with_reducible intro hc); (try simp only [leZ_eq, ltZ_eq, eqZ_eq, str_size, str_list, str_nil, List.toList_toArray, decide_eq_true_eq, decide_eq_false_iff_not, beq_iff_eq, bne_iff_ne, beq_eq_false_iff_ne, bne_eq_false_iff_eq, ne_eq, Bool.not_eq_true', Bool.not_eq_false', Bool.not_true, Bool.not_false, gt_iff_lt, ge_iff_le, Int.not_lt, Int.not_le, Decidable.not_not] at hc); (first | (exact absurd rfl hc) | (exact absurd trivial hc) | (exfalso; omega) | skip)) | (exact Is.mk rfl rfl) | ((conv => whnf); first | (with_reducible refine And.intro ?_ ?_) | (with_reducible intro hx) | (exact Is.mk rfl rfl) | (with_reducible apply Val.via) | (with_reducible apply ValH.via) | (refine ifB_intro (fun hc => ?_) (fun hc => ?_) <;> (try simp only [leZ_eq, ltZ_eq, eqZ_eq, str_size, str_list, str_nil, List.toList_toArray, decide_eq_true_eq, decide_eq_false_iff_not, beq_iff_eq, bne_iff_ne, beq_eq_false_iff_ne, bne_eq_false_iff_eq, ne_eq, Bool.not_eq_true', Bool.not_eq_false', Bool.not_true, Bool.not_false, gt_iff_lt, ge_iff_le, Int.not_lt, Int.not_le, Decidable.not_not] at hc) <;> (first | (exact absurd rfl hc) | (exact absurd trivial hc) | (exfalso; omega) | skip)) | (refine GAr.i64 (by omega) ?_) | ((refine GAr.i64w ?_); intro kw hk1 hk2) | (refine GAr.u8s (by omega) ?_) | (refine GAr.u8 ?_) | (refine GAr.u64s (by omega) ?_) | (refine GAr.u32s (by omega) ?_) | (refine GAr.u64 ?_) | (refine GAr.u32 ?_) | (refine GQuo.i64 (by omega) ?_) | (refine GRem.pos (by omega) ?_) | (with_reducible refine stopA ?_) | (refine Exists.intro _ (And.intro (by rfl) ?_)) | (refine GOp.drawn (by rfl) (by rfl) (Nat.le_of_ble_eq_true (by rfl)) (by rfl)) | (refine GOp.via (by rfl) ?_) | (refine GWP.drawY mixed _ (by kernel_rfl) (by rfl) ?_) | (refine GCall.mk ((lives2_call _).mono ?_); rintro _ _ ⟨rfl, rfl⟩) | (with_reducible refine stopO ?_) | (with_reducible refine stopE ?_) | (with_reducible refine stopD ?_) | (with_reducible refine stopW ?_) | (with_reducible refine stopG ?_) | (with_reducible refine stopC ?_) | (with_reducible refine stopR ?_)))
  all_goals (first | omega | exact Done'.mk rfl)
theorem cmpL_range (a b : List Int) : -1 ≤ cmpL ltI a b ∧ cmpL ltI a b ≤ 1 := by
  induction a generalizing b with
  | nil => cases b <;> simp [cmpL]
  | cons x a ih =>
    cases b with
    | nil => simp [cmpL]
    | cons y b =>
      unfold cmpL
      split
      · omega
      · split
        · omega
        · exact ih b
theorem rules_walk (a b c : List Int) : VCall Try.prog 5 [roI a, roI b, roI c] ⟨[], 0⟩ (fun v K => v = booV true) := by
  by_cases h1 : 60 < a.length
  · exact rules_long a b c (.inl h1)
  by_cases h2 : 60 < b.length
  · exact rules_long a b c (.inr (.inl h2))
  by_cases h3 : 60 < c.length
  · exact rules_long a b c (.inr (.inr h3))
  have ok := lt_okI
  have lX := ofL_len (lt := ltI) a
  have lY := ofL_len (lt := ltI) b
  have lZ := ofL_len (lt := ltI) c
  have hX := ofL_ris ok a
  have hY := ofL_ris ok b
  have hZ := ofL_ris ok c
  have cOa := fun H => of_I a (by omega) H
  have cOb := fun H => of_I b (by omega) H
  have cOc := fun H => of_I c (by omega) H
  generalize ofL ltI a = X at *
  generalize ofL ltI b = Y at *
  generalize ofL ltI c = Z at *
  have c0 : ∀ (l : List Int) (H : Heap), l.length ≤ 1000 → VCall Try.prog 26 [setV (roI l), setV (roI l)] H (fun v K => v = iV 0 ∧ K = H) := fun l H hl => by
    have := cmpS_call l l (by omega) (by omega) H
    rwa [cmpL_self ok] at this
  have lenJ : ∀ p q : List Int, (ofL ltI (p ++ q)).length ≤ p.length + q.length := fun p q => by
    have := ofL_len (lt := ltI) (p ++ q); rwa [List.length_append] at this
  have lenM : ∀ (p q : List Int) (s : Bool), (bothL p q s).length ≤ p.length := fun p q s => List.length_filter_le _ _
  have cJ : ∀ (p q : List Int) (H : Heap), Ris ltI p → Ris ltI q → p.length ≤ 1000 → q.length ≤ 1000 → VCall Try.prog 23 [setV (roI p), setV (roI q)] H (fun v K => v = setV (roI (ofL ltI (p ++ q))) ∧ K = H) := fun p q H hp hq h1 h2 => by
    have := join_call p q (by omega) (by omega) H
    rwa [join_eq ok hp hq] at this
  have cM : ∀ (p q : List Int) (H : Heap), Ris ltI p → Ris ltI q → p.length ≤ 1000 → q.length ≤ 1000 → VCall Try.prog 24 [setV (roI p), setV (roI q)] H (fun v K => v = setV (roI (bothL p q true)) ∧ K = H) := fun p q H hp hq h1 h2 => by
    have := meet_call p q (by omega) (by omega) H
    rwa [meet_eq ok hp hq] at this
  have cD := fun H => minus_call X Y (by omega) (by omega) H
  rw [minus_eq ok hX hY] at cD
  have rJ : ∀ p q : List Int, Ris ltI (ofL ltI (p ++ q)) := fun p q => ofL_ris ok _
  have rM : ∀ (p q : List Int) (s : Bool), Ris ltI p → Ris ltI (bothL p q s) := fun p q s h => bothL_ris s h
  -- the sets' equalities
  have e1 : ofL ltI (Y ++ X) = ofL ltI (X ++ Y) := ofL_congr ok fun x => by rw [List.mem_append, List.mem_append, or_comm]
  have e2 : bothL Y X true = bothL X Y true := ris_uniq ok _ _ (rM _ _ _ hY) (rM _ _ _ hX) fun x => by rw [(bothL_mem _ _ _).1, (bothL_mem _ _ _).1, and_comm]
  have e3 : ofL ltI (X ++ ofL ltI (Y ++ Z)) = ofL ltI (ofL ltI (X ++ Y) ++ Z) := ofL_congr ok fun x => by rw [List.mem_append, List.mem_append, ofL_mem, ofL_mem, List.mem_append, List.mem_append, or_assoc]
  have e4 : ofL ltI (bothL X Y true ++ bothL X Z true) = bothL X (ofL ltI (Y ++ Z)) true := ris_uniq ok _ _ (ofL_ris ok _) (rM _ _ _ hX) fun x => by
    rw [ofL_mem, List.mem_append, (bothL_mem _ _ _).1, (bothL_mem _ _ _).1, (bothL_mem _ _ _).1, ofL_mem, List.mem_append, and_or_left]
  have e5 : ofL ltI (bothL X Y true ++ bothL X Y false) = X := ris_uniq ok _ _ (ofL_ris ok _) hX fun x => by
    rw [ofL_mem, List.mem_append, (bothL_mem _ _ _).1, (bothL_mem _ _ _).2]
    by_cases hx : x ∈ Y <;> simp [hx]
  have cJxy := fun H => cJ X Y H hX hY (by omega) (by omega)
  have cJyx := fun H => cJ Y X H hY hX (by omega) (by omega)
  rw [e1] at cJyx
  have cMxy := fun H => cM X Y H hX hY (by omega) (by omega)
  have cMyx := fun H => cM Y X H hY hX (by omega) (by omega)
  rw [e2] at cMyx
  have lP1 := lenJ X Y
  have lP2 := lenJ Y Z
  have lQ := lenJ (ofL ltI (X ++ Y)) Z
  have lM1 := lenM X Y true
  have lM2 := lenM X (ofL ltI (Y ++ Z)) true
  have lM3 := lenM X Z true
  have lD := lenM X Y false
  have cJyz := fun H => cJ Y Z H hY hZ (by omega) (by omega)
  have cQ1 := fun H => cJ (ofL ltI (X ++ Y)) Z H (rJ _ _) hZ (by omega) (by omega)
  have cQ2 := fun H => cJ X (ofL ltI (Y ++ Z)) H hX (rJ _ _) (by omega) (by omega)
  rw [e3] at cQ2
  have cM2 := fun H => cM X (ofL ltI (Y ++ Z)) H hX (rJ _ _) (by omega) (by omega)
  have cM3 := fun H => cM X Z H hX hZ (by omega) (by omega)
  have cJM := fun H => cJ (bothL X Y true) (bothL X Z true) H (rM _ _ _ hX) (rM _ _ _ hX) (by omega) (by omega)
  rw [e4] at cJM
  have cJD := fun H => cJ (bothL X Y true) (bothL X Y false) H (rM _ _ _ hX) (rM _ _ _ hX) (by omega) (by omega)
  rw [e5] at cJD
  have cS1 := fun H => sub_call (bothL X Y true) X (by omega) (by omega) H
  rw [(subL_iff ok (rM _ _ _ hX) hX).2 (fun z hz => ((bothL_mem _ _ _).1.1 hz).1)] at cS1
  have cS2 := fun H => sub_call X (ofL ltI (X ++ Y)) (by omega) (by omega) H
  rw [(subL_iff ok hX (rJ _ _)).2 (fun z hz => (ofL_mem _ _).2 (List.mem_append_left _ hz))] at cS2
  have cS3 := fun H => sub_call X Y (by omega) (by omega) H
  have cCJ := fun H => cmpS_call (ofL ltI (X ++ Y)) Y (by omega) (by omega) H
  have hS : (subL ltI X Y = true ∧ cmpL ltI (ofL ltI (X ++ Y)) Y = 0) ∨ (subL ltI X Y = false ∧ cmpL ltI (ofL ltI (X ++ Y)) Y ≠ 0) := by
    cases hs : subL ltI X Y with
    | true =>
      refine .inl ⟨rfl, ?_⟩
      have e : ofL ltI (X ++ Y) = Y := ris_uniq ok _ _ (rJ _ _) hY fun x => by
        rw [ofL_mem, List.mem_append]
        exact ⟨fun h => h.elim (fun h => (subL_iff ok hX hY).1 hs x h) id, .inr⟩
      rw [e, cmpL_self ok]
    | false =>
      refine .inr ⟨rfl, fun h => ?_⟩
      have e := cmpL_zero ok _ _ h
      have : subL ltI X Y = true := (subL_iff ok hX hY).2 fun z hz => by
        rw [← e, ofL_mem]
        exact List.mem_append_left _ hz
      rw [hs] at this; cases this
  have cC1 := fun H => cmpS_call X Y (by omega) (by omega) H
  have cC2 := fun H => cmpS_call Y X (by omega) (by omega) H
  have eC := cmpL_neg ok X Y
  have rC := cmpL_range Y X
  clear e1 e2 e3 e4 e5 rJ rM cJ cM lenJ lenM hX hY hZ ok
  generalize cmpL ltI X Y = d1 at *
  generalize cmpL ltI Y X = d2 at *
  generalize subL ltI X Y = s at *
  generalize ofL ltI (ofL ltI (X ++ Y) ++ Z) = Q1 at *
  generalize bothL X (ofL ltI (Y ++ Z)) true = M2 at *
  generalize cmpL ltI (ofL ltI (X ++ Y)) Y = d3 at *
  generalize ofL ltI (X ++ Y) = P1 at *
  generalize ofL ltI (Y ++ Z) = P2 at *
  generalize bothL X Y true = M1 at *
  generalize bothL X Y false = D at *
  generalize bothL X Z true = M3 at *
  refine VCall.go Try.func5 rfl ?_
  repeat' (first | (with_reducible refine And.intro ?_ ?_) | ((with_reducible intro hc); (try simp only [leZ_eq, ltZ_eq, eqZ_eq, str_size, str_list, str_nil, List.toList_toArray, decide_eq_true_eq, decide_eq_false_iff_not, beq_iff_eq, bne_iff_ne, beq_eq_false_iff_ne, bne_eq_false_iff_eq, ne_eq, Bool.not_eq_true', Bool.not_eq_false', Bool.not_true, Bool.not_false, gt_iff_lt, ge_iff_le, Int.not_lt, Int.not_le, Decidable.not_not] at hc); (first | (exact absurd rfl hc) | (exact absurd trivial hc) | (exfalso; omega) | skip)) | (exact Is.mk rfl rfl) | ((conv => whnf); first | (with_reducible refine And.intro ?_ ?_) | (with_reducible intro hx) | (exact Is.mk rfl rfl) | (with_reducible apply Val.via) | (with_reducible apply ValH.via) | (refine ifB_intro (fun hc => ?_) (fun hc => ?_) <;> (try simp only [leZ_eq, ltZ_eq, eqZ_eq, str_size, str_list, str_nil, List.toList_toArray, decide_eq_true_eq, decide_eq_false_iff_not, beq_iff_eq, bne_iff_ne, beq_eq_false_iff_ne, bne_eq_false_iff_eq, ne_eq, Bool.not_eq_true', Bool.not_eq_false', Bool.not_true, Bool.not_false, gt_iff_lt, ge_iff_le, Int.not_lt, Int.not_le, Decidable.not_not] at hc) <;> (first | (exact absurd rfl hc) | (exact absurd trivial hc) | (exfalso; omega) | skip)) | (refine GAr.i64 (by omega) ?_) | ((refine GAr.i64w ?_); intro kw hk1 hk2) | (refine GAr.u8s (by omega) ?_) | (refine GAr.u8 ?_) | (refine GAr.u64s (by omega) ?_) | (refine GAr.u32s (by omega) ?_) | (refine GAr.u64 ?_) | (refine GAr.u32 ?_) | (refine GQuo.i64 (by omega) ?_) | (refine GRem.pos (by omega) ?_) | (with_reducible refine stopA ?_) | (refine Exists.intro _ (And.intro (by (first | exact vat_of rfl rfl rfl | rfl)) ?_)) | (refine GOp.drawn (by rfl) (by rfl) (Nat.le_of_ble_eq_true (by rfl)) (by rfl)) | (refine GOp.via (by rfl) ?_) | (refine GWP.drawY mixed _ (by kernel_rfl) (by rfl) ?_) | (first | (refine GCall.mk ((lives2_call _).mono ?_); rintro _ _ ⟨rfl, rfl⟩) | (refine GCall.mk ((cOa _).mono ?_); rintro _ _ ⟨rfl, rfl⟩) | (refine GCall.mk ((cOb _).mono ?_); rintro _ _ ⟨rfl, rfl⟩) | (refine GCall.mk ((cOc _).mono ?_); rintro _ _ ⟨rfl, rfl⟩) | (refine GCall.mk ((cJxy _).mono ?_); rintro _ _ ⟨rfl, rfl⟩) | (refine GCall.mk ((cJyx _).mono ?_); rintro _ _ ⟨rfl, rfl⟩) | (refine GCall.mk ((cMxy _).mono ?_); rintro _ _ ⟨rfl, rfl⟩) | (refine GCall.mk ((cMyx _).mono ?_); rintro _ _ ⟨rfl, rfl⟩) | (refine GCall.mk ((cJyz _).mono ?_); rintro _ _ ⟨rfl, rfl⟩) | (refine GCall.mk ((cQ1 _).mono ?_); rintro _ _ ⟨rfl, rfl⟩) | (refine GCall.mk ((cQ2 _).mono ?_); rintro _ _ ⟨rfl, rfl⟩) | (refine GCall.mk ((cM2 _).mono ?_); rintro _ _ ⟨rfl, rfl⟩) | (refine GCall.mk ((cM3 _).mono ?_); rintro _ _ ⟨rfl, rfl⟩) | (refine GCall.mk ((cJM _).mono ?_); rintro _ _ ⟨rfl, rfl⟩) | (refine GCall.mk ((cJD _).mono ?_); rintro _ _ ⟨rfl, rfl⟩) | (refine GCall.mk ((cD _).mono ?_); rintro _ _ ⟨rfl, rfl⟩) | (refine GCall.mk ((cS1 _).mono ?_); rintro _ _ ⟨rfl, rfl⟩) | (refine GCall.mk ((cS2 _).mono ?_); rintro _ _ ⟨rfl, rfl⟩) | (refine GCall.mk ((cS3 _).mono ?_); rintro _ _ ⟨rfl, rfl⟩) | (refine GCall.mk ((cCJ _).mono ?_); rintro _ _ ⟨rfl, rfl⟩) | (refine GCall.mk ((cC1 _).mono ?_); rintro _ _ ⟨rfl, rfl⟩) | (refine GCall.mk ((cC2 _).mono ?_); rintro _ _ ⟨rfl, rfl⟩) | (refine GCall.mk ((c0 P1 _ (by omega)).mono ?_); rintro _ _ ⟨rfl, rfl⟩) | (refine GCall.mk ((c0 M1 _ (by omega)).mono ?_); rintro _ _ ⟨rfl, rfl⟩) | (refine GCall.mk ((c0 Q1 _ (by omega)).mono ?_); rintro _ _ ⟨rfl, rfl⟩) | (refine GCall.mk ((c0 M2 _ (by omega)).mono ?_); rintro _ _ ⟨rfl, rfl⟩) | (refine GCall.mk ((c0 X _ (by omega)).mono ?_); rintro _ _ ⟨rfl, rfl⟩)) | (with_reducible refine stopO ?_) | (with_reducible refine stopE ?_) | (with_reducible refine stopD ?_) | (with_reducible refine stopW ?_) | (with_reducible refine stopG ?_) | (with_reducible refine stopC ?_) | (with_reducible refine stopR ?_)))
  all_goals (first | omega | exact Done'.mk rfl | exact Done'.mk (boolV_eq (by rw [eqZ_eq]; exact decide_eq_true (by omega))) | (exfalso; exact hS.elim (fun g => hc (by rw [g.1]; exact (decide_eq_true g.2).symm)) (fun g => hc (by rw [g.1]; exact (decide_eq_false g.2).symm))))
end Go.Proofs.Ytdgohabgjgdfeaa
