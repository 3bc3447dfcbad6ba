/- Clone of a slice that may be nil. -/
import Derived.Test.YtdgohabgjgdfeaaDoorVd
import Derived.Test.YtdgohabgjgdfeaaDoorVi
namespace Go.Proofs.YtdgohabgjgdfeaaDoor
open Go Go.RowKit
set_option linter.unusedSimpArgs false
set_option linter.unusedVariables false
set_option maxRecDepth 100000
set_option maxHeartbeats 4000000
theorem VCall.argW {P : Program} {f : FuncId} {args args' : List VV} {H : Heap} {Q : VV → Heap → Prop} (hw : ∀ w Z ρ cs, Pw (VRel w Z ρ) args cs → Pw (VRel w Z ρ) args' cs) (h : VCall P f args' H Q) : VCall P f args H Q :=
  fun B M Z ρ w ra h1 h2 => h B M Z ρ w ra h1 (hw _ _ _ _ h2)
theorem weak_gs0 {b z : Nat} {w : World} {Z : Nat → Prop} {ρ : Nat → Option (Nat × Nat)} {cs : List Value} (h : Pw (VRel w Z ρ) [.gs b 0 z] cs) : Pw (VRel w Z ρ) [.ro 0 []] cs := by
  refine ⟨h.1, fun i u x hu hx => ?_⟩
  cases i with
  | zero =>
    simp at hu
    subst hu
    have := h.2 0 _ x rfl hx
    cases this with
    | gs0 => exact .ro0
    | gs _ _ _ h0 => exact absurd rfl h0
  | succ i => simp at hu
theorem VCall.ungs {P : Program} {f : FuncId} {H : Heap} {Q : VV → Heap → Prop} {b n z : Nat} {vs : List VV} (hg : H.get b = some (.opt vs)) (hn : n ≠ 0) (h : VCall P f [.sl b 0 n none z] (H.set b (.cells true vs)) Q) : VCall P f [.gs b n z] H Q :=
  fun B M Z ρ w ra h1 h2 => by
    obtain ⟨hlen, hrel⟩ := h2
    match hra : ra.toList, hlen with
    | [y], _ =>
      have hv := hrel 0 _ y rfl (by rw [hra]; rfl)
      cases hv with
      | gs0 => exact absurd rfl hn
      | gs hk hcap hz h0 =>
        refine h B M Z ρ w ra (h1.toCells hg hk) ⟨by rw [hra]; rfl, fun i u x hu hx => ?_⟩
        cases i with
        | zero =>
          simp at hu
          subst hu
          rw [hra] at hx
          simp at hx
          subst hx
          exact .sl hk hcap (fun _ e => by cases e) (fun _ => by omega)
        | succ i => simp at hu
theorem clone_can (l : List UInt8) (hm : l.length ≤ 140737488355328) : VCall Tryd.prog 82 [.gs 0 l.length 1] ⟨[(0, .opt (l.map bV))], 1⟩ (fun v K => v = .gs 1 l.length 1 ∧ K = ⟨[(0, .opt (l.map bV)), (1, .opt (l.map bV))], 2⟩) := by
  by_cases hl : l.length = 0
  · have hl2 := List.eq_nil_of_length_eq_zero hl
    subst hl2
    refine VCall.argW (args' := [.ro 0 []]) (fun w Z ρ cs h => weak_gs0 h) ?_
    refine VCall.outR (Q := fun v K => (v = .sc (.slice none 0 0) ∨ ∃ c, v = .sl c 0 0 (some 0) 1) ∧ K.get 0 = some (.opt [])) ?_ ?_
    · refine VCall.go Tryd.func82 rfl ?_
      repeat' (first | (with_reducible refine And.intro ?_ ?_) | ((with_reducible intro hc); (try simp only [leZ_eq, ltZ_eq, eqZ_eq, str_size, str_list, str_nil, List.toList_toArray, decide_eq_true_eq, decide_eq_false_iff_not, beq_iff_eq, bne_iff_ne, beq_eq_false_iff_ne, bne_eq_false_iff_eq, ne_eq, Bool.not_eq_true', Bool.not_eq_false', Bool.not_true, Bool.not_false, gt_iff_lt, ge_iff_le, Int.not_lt, Int.not_le, Decidable.not_not] at hc); (first | (exact absurd rfl hc) | (exact absurd trivial hc) | (exfalso; omega) | skip)) | ((conv => whnf); first | (with_reducible refine And.intro ?_ ?_) | (refine ifB_intro (fun hc => ?_) (fun hc => ?_) <;> (try simp only [leZ_eq, ltZ_eq, eqZ_eq, str_size, str_list, str_nil, List.toList_toArray, decide_eq_true_eq, decide_eq_false_iff_not, beq_iff_eq, bne_iff_ne, beq_eq_false_iff_ne, bne_eq_false_iff_eq, ne_eq, Bool.not_eq_true', Bool.not_eq_false', Bool.not_true, Bool.not_false, gt_iff_lt, ge_iff_le, Int.not_lt, Int.not_le, Decidable.not_not] at hc) <;> (first | (exact absurd rfl hc) | (exact absurd trivial hc) | (exfalso; omega) | skip)) | (refine GAr.i64 (by omega) ?_) | ((refine GAr.i64w ?_); intro kw hk1 hk2) | (refine GAr.u8s (by omega) ?_) | (refine GAr.u8 ?_) | (refine GAr.u64s (by omega) ?_) | (refine GAr.u32s (by omega) ?_) | (refine GAr.u64 ?_) | (refine GAr.u32 ?_) | (refine GQuo.i64 (by omega) ?_) | (refine GRem.pos (by omega) ?_) | (with_reducible refine stopA ?_) | (refine Exists.intro _ (And.intro (by rfl) ?_)) | (refine GOp.via (by rfl) ?_) | (with_reducible refine stopO ?_) | (with_reducible refine stopE ?_) | (with_reducible refine stopD ?_) | (with_reducible refine stopW ?_) | (with_reducible refine stopG ?_) | (with_reducible refine stopC ?_) | (with_reducible refine stopR ?_)))
      · exact Done'.mk ⟨.inl rfl, rfl⟩
      · exact Done'.mk ⟨.inr ⟨_, rfl⟩, rfl⟩
    · rintro v K ⟨hv, h0⟩
      refine ⟨.gs 1 0 1, [(0, .opt []), (1, .opt [])], 2, [], rfl, ?_, ⟨⟨_, h0, .opt .nil⟩, rfl, trivial⟩, rfl, rfl⟩
      rcases hv with rfl | ⟨c, rfl⟩
      · exact .gsN
      · exact .gsZ
  · refine VCall.ungs rfl hl ?_
    refine VCall.outR (Q := fun v K => v = .sl 2 0 l.length none 1 ∧ K.get 0 = some (.cells true (l.map bV)) ∧ K.get 2 = some (.cells true (l.map bV))) ?_ ?_
    · refine VCall.go Tryd.func82 rfl ?_
      repeat' (first | (with_reducible refine And.intro ?_ ?_) | ((with_reducible intro hc); (try simp only [leZ_eq, ltZ_eq, eqZ_eq, str_size, str_list, str_nil, List.toList_toArray, decide_eq_true_eq, decide_eq_false_iff_not, beq_iff_eq, bne_iff_ne, beq_eq_false_iff_ne, bne_eq_false_iff_eq, ne_eq, Bool.not_eq_true', Bool.not_eq_false', Bool.not_true, Bool.not_false, gt_iff_lt, ge_iff_le, Int.not_lt, Int.not_le, Decidable.not_not] at hc); (first | (exact absurd rfl hc) | (exact absurd trivial hc) | (exfalso; omega) | skip)) | ((conv => whnf); first | (with_reducible refine And.intro ?_ ?_) | (refine ifB_intro (fun hc => ?_) (fun hc => ?_) <;> (try simp only [leZ_eq, ltZ_eq, eqZ_eq, str_size, str_list, str_nil, List.toList_toArray, decide_eq_true_eq, decide_eq_false_iff_not, beq_iff_eq, bne_iff_ne, beq_eq_false_iff_ne, bne_eq_false_iff_eq, ne_eq, Bool.not_eq_true', Bool.not_eq_false', Bool.not_true, Bool.not_false, gt_iff_lt, ge_iff_le, Int.not_lt, Int.not_le, Decidable.not_not] at hc) <;> (first | (exact absurd rfl hc) | (exact absurd trivial hc) | (exfalso; omega) | skip)) | (refine GAr.i64 (by omega) ?_) | ((refine GAr.i64w ?_); intro kw hk1 hk2) | (refine GAr.u8s (by omega) ?_) | (refine GAr.u8 ?_) | (refine GAr.u64s (by omega) ?_) | (refine GAr.u32s (by omega) ?_) | (refine GAr.u64 ?_) | (refine GAr.u32 ?_) | (refine GQuo.i64 (by omega) ?_) | (refine GRem.pos (by omega) ?_) | (with_reducible refine stopA ?_) | (refine Exists.intro _ (And.intro (by rfl) ?_)) | (refine GOp.via (by rfl) ?_) | (with_reducible refine stopO ?_) | (with_reducible refine stopE ?_) | (with_reducible refine stopD ?_) | (with_reducible refine stopW ?_) | (with_reducible refine stopG ?_) | (with_reducible refine stopC ?_) | (with_reducible refine stopR ?_)))
      refine GOp'.via ((vapp_full sty_b (d := .slice 5) Tryd.underlying22 (by intro k h; cases h) (b := 1) (o := 0) (n := 0) (c := 0) (z' := 1) (vs := []) (rw := true) (velems_sl (vs := l.map bV) rfl (by simp)) (one_map l) rfl (by omega) (by omega) (by simp) (by omega) (by omega)).trans (by rw [Nat.zero_add])) ?_
      repeat' (first | (with_reducible refine And.intro ?_ ?_) | ((with_reducible intro hc); (try simp only [leZ_eq, ltZ_eq, eqZ_eq, str_size, str_list, str_nil, List.toList_toArray, decide_eq_true_eq, decide_eq_false_iff_not, beq_iff_eq, bne_iff_ne, beq_eq_false_iff_ne, bne_eq_false_iff_eq, ne_eq, Bool.not_eq_true', Bool.not_eq_false', Bool.not_true, Bool.not_false, gt_iff_lt, ge_iff_le, Int.not_lt, Int.not_le, Decidable.not_not] at hc); (first | (exact absurd rfl hc) | (exact absurd trivial hc) | (exfalso; omega) | skip)) | ((conv => whnf); first | (with_reducible refine And.intro ?_ ?_) | (refine ifB_intro (fun hc => ?_) (fun hc => ?_) <;> (try simp only [leZ_eq, ltZ_eq, eqZ_eq, str_size, str_list, str_nil, List.toList_toArray, decide_eq_true_eq, decide_eq_false_iff_not, beq_iff_eq, bne_iff_ne, beq_eq_false_iff_ne, bne_eq_false_iff_eq, ne_eq, Bool.not_eq_true', Bool.not_eq_false', Bool.not_true, Bool.not_false, gt_iff_lt, ge_iff_le, Int.not_lt, Int.not_le, Decidable.not_not] at hc) <;> (first | (exact absurd rfl hc) | (exact absurd trivial hc) | (exfalso; omega) | skip)) | (refine GAr.i64 (by omega) ?_) | ((refine GAr.i64w ?_); intro kw hk1 hk2) | (refine GAr.u8s (by omega) ?_) | (refine GAr.u8 ?_) | (refine GAr.u64s (by omega) ?_) | (refine GAr.u32s (by omega) ?_) | (refine GAr.u64 ?_) | (refine GAr.u32 ?_) | (refine GQuo.i64 (by omega) ?_) | (refine GRem.pos (by omega) ?_) | (with_reducible refine stopA ?_) | (refine Exists.intro _ (And.intro (by rfl) ?_)) | (refine GOp.via (by rfl) ?_) | (with_reducible refine stopO ?_) | (with_reducible refine stopE ?_) | (with_reducible refine stopD ?_) | (with_reducible refine stopW ?_) | (with_reducible refine stopG ?_) | (with_reducible refine stopC ?_) | (with_reducible refine stopR ?_)))
      exact Done'.mk ⟨rfl, rfl, rfl⟩
    · rintro v K ⟨rfl, h0, h2⟩
      refine ⟨.gs 1 l.length 1, [(0, .opt (l.map bV)), (1, .opt (l.map bV))], 2, [(2, 1)], rfl, .gsS (List.Mem.head _) rfl hl, ⟨⟨_, h0, .toOpt (.of (nameless_map nameless_bV l))⟩, ⟨_, h2, .toOpt (.of (nameless_map nameless_bV l))⟩, trivial⟩, rfl, rfl⟩
theorem clone_at {H : Heap} {b : Nat} {l : List UInt8} (hm : l.length ≤ 140737488355328) (hg : H.get b = some (.opt (l.map bV))) : VCall Tryd.prog 82 [.gs b l.length 1] H (fun v K => v = .gs H.next l.length 1 ∧ K = ⟨(b, .opt (l.map bV)) :: (H.next, .opt (l.map bV)) :: restO [b] H.objs, H.next + 1⟩) := by
  refine VCall.live fun hlive => ?_
  have hb := hlive _ _ hg
  have hm' : ∀ x y : Nat, x ≠ y → Nat.beq x y = false := fun x y h => by
    cases hh : Nat.beq x y
    · rfl
    · exact absurd (Nat.eq_of_beq_eq_true hh) h
  have k1 : (⟨keepO [b] H.objs, H.next⟩ : Heap).get b = some (.opt (l.map bV)) := by
    show hget _ _ = _
    rw [hget_keepO]
    simp only [memN, Nat.beq_refl]
    exact hg
  refine VCall.at (n1 := 1) (O1 := [(0, .opt (l.map bV))]) [b] [(b, 0)] rfl ⟨⟨_, k1, .opt (.of (nameless_map nameless_bV l))⟩, trivial⟩ (.cons (.gs (List.Mem.head _)) .nil) (clone_can l hm) ?_
  rintro v K ⟨rfl, rfl⟩
  have e3 : Nat.blt b (H.next + 1) = true := blt_iff.2 (by omega)
  have e4 : Nat.blt H.next (H.next + 1) = true := blt_iff.2 (by omega)
  have s0 : srcOf [(1, H.next), (0, b)] 0 b = some 0 := by
    simp only [srcOf0, srcN, hm' H.next b (by omega), Nat.beq_refl]
  have s1 : srcOf [(1, H.next), (0, b)] 0 H.next = some 1 := by
    simp only [srcOf0, srcN, Nat.beq_refl]
  refine ⟨.gs H.next l.length 1, [(b, .opt (l.map bV)), (H.next, .opt (l.map bV))], ⟨?_, .gs (List.Mem.head _), ?_⟩, ?_, rfl, rfl⟩
  · show (wfR 0 (H.next + 1) [(1, H.next), (0, b)] && nodupB (ksOf [(1, H.next), (0, b)] 0 [(b, VObj.opt (l.map bV)), (H.next, VObj.opt (l.map bV))]) && ((srcN [(1, H.next), (0, b)] b).isSome && ((srcN [(1, H.next), (0, b)] H.next).isSome && true)) && (true && (true && true))) = true
    have s0' := (srcOf0 _ _).symm.trans s0
    have s1' := (srcOf0 _ _).symm.trans s1
    simp only [ksOf, s0, s1, s0', s1']
    simp only [wfR, srcN, e3, e4, hm' b H.next (by omega)]
    rfl
  · refine ⟨?_, ?_, trivial⟩
    · show (match srcOf [(1, H.next), (0, b)] 0 b with
        | some a => _
        | none => _)
      rw [s0]
      exact ⟨_, rfl, .opt (.of (nameless_map nameless_bV l))⟩
    · show (match srcOf [(1, H.next), (0, b)] 0 H.next with
        | some a => _
        | none => _)
      rw [s1]
      exact ⟨_, rfl, .opt (.of (nameless_map nameless_bV l))⟩
  · have k2 : memN b ((restO [b] H.objs).map (·.1)) = false := by
      cases hc : memN b ((restO [b] H.objs).map (·.1)) with
      | false => rfl
      | true =>
        have key : ∀ (O : List (Nat × VObj)), b ∈ (restO [b] O).map (·.1) → False := by
          intro O
          induction O with
          | nil => intro h; simp [restO] at h
          | cons p r ih =>
            obtain ⟨k, x⟩ := p
            intro h
            unfold restO at h
            cases hk : memN k [b] with
            | true => rw [hk] at h; exact ih h
            | false =>
              rw [hk] at h
              rcases List.mem_cons.1 h with e | h
              · simp only at e
                subst e
                simp [memN, Nat.beq_refl] at hk
              · exact ih h
        exact (key _ (memN_iff.1 hc)).elim
    have k3 : memN H.next ((restO [b] H.objs).map (·.1)) = false := by
      cases hc : memN H.next ((restO [b] H.objs).map (·.1)) with
      | false => rfl
      | true =>
        have key : ∀ (O : List (Nat × VObj)), H.next ∈ (restO [b] O).map (·.1) → ∃ x, hget O H.next = some x := by
          intro O
          induction O with
          | nil => intro h; simp [restO] at h
          | cons p r ih =>
            obtain ⟨k, x⟩ := p
            intro h
            rw [hget_cons]
            split
            · exact ⟨_, rfl⟩
            · rename_i hne
              unfold restO at h
              cases hk : memN k [b] with
              | true => rw [hk] at h; exact ih h
              | false =>
                rw [hk] at h
                rcases List.mem_cons.1 h with e | h
                · exact absurd e.symm hne
                · exact ih h
        obtain ⟨x, hx⟩ := key _ (memN_iff.1 hc)
        have := hlive _ _ hx
        omega
    simp only [List.all_cons, List.all_nil, k2, k3]
    rfl
end Go.Proofs.YtdgohabgjgdfeaaDoor
