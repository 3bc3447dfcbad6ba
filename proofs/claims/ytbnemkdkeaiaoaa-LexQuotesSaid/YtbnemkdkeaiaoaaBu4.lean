/- A builder's calls at any names. -/
import Derived.Test.YtbnemkdkeaiaoaaBu3
namespace Go.Proofs.Ytbnemkdkeaiaoaa
open Go Go.RowKit
set_option linter.unusedSimpArgs false
set_option linter.unusedVariables false
theorem beq_ne {a b : Nat} (h : a ≠ b) : Nat.beq a b = false := by
  cases e : Nat.beq a b
  · rfl
  · exact absurd (Nat.eq_of_beq_eq_true e) h
theorem hget_memB {b : Nat} : ∀ (l : List (Nat × VObj)), b ∈ l.map (·.1) → ∃ x, Go.Proofs.Ytbnemkdkeaiaoaa.hget l b = some x := by
  intro l
  induction l with
  | nil => intro h; simp at h
  | cons p r ih =>
    obtain ⟨k, y⟩ := p
    intro h
    rw [hget_cons]
    by_cases e : k = b
    · rw [if_pos e]; exact ⟨y, rfl⟩
    · rw [if_neg e]
      rcases List.mem_cons.1 h with h | h
      · exact absurd h.symm e
      · exact ih h
theorem restO_none (D : List Nat) (b : Nat) (hb : memN b D = true) (O : List (Nat × VObj)) : memN b ((restO D O).map (·.1)) = false := by
  cases hc : memN b ((restO D O).map (·.1)) with
  | false => rfl
  | true =>
    obtain ⟨x, hx⟩ := hget_memB _ (memN_iff.1 hc)
    rw [hget_restO, hb] at hx
    cases hx
theorem restO_live {D : List Nat} {H : Heap} {n : Nat} (hl : ∀ b x, H.get b = some x → b < n) : memN n ((restO D H.objs).map (·.1)) = false := by
  cases hc : memN n ((restO D H.objs).map (·.1)) with
  | false => rfl
  | true =>
    obtain ⟨x, hx⟩ := hget_memB _ (memN_iff.1 hc)
    rw [hget_restO] at hx
    split at hx
    · cases hx
    · have := hl _ _ hx
      omega
theorem keepO_get {D : List Nat} {H : Heap} {b : Nat} (hb : memN b D = true) : (⟨keepO D H.objs, H.next⟩ : Heap).get b = H.get b := by
  show hget (keepO D H.objs) b = _
  rw [hget_keepO, hb]
  rfl
theorem buf_ren {R : List (Nat × Nat)} {T : Nat} {e : TypeId} (l : List UInt8) : RenO R T (bufX e l) (bufX e l) := by
  cases l with
  | nil => exact .opt .nil
  | cons c r => exact .raw
theorem bufV_ren {R : List (Nat × Nat)} {T m m' : Nat} {l : List UInt8} (hm : (m, m') ∈ R) : RenV R T (bufV m l) (bufV m' l) := by
  cases l with
  | nil => exact .of (nameless_sc _)
  | cons c r => exact .sl hm
theorem sbV_ren {R : List (Nat × Nat)} {T : Nat} {u : Bool} {b b' m m' : Nat} {l : List UInt8} (hb : RenV R T (.ptr b 0) (.ptr b' 0)) (hm : (m, m') ∈ R) : RenO R T (sbV u b m l) (sbV u b' m' l) := by
  cases u with
  | false => exact .raw
  | true => exact .cells (.cons hb (.cons (bufV_ren hm) .nil))
theorem sbV_rw (u : Bool) (b m : Nat) (l : List UInt8) : (sbV u b m l).rw = true := by cases u <;> rfl
theorem bufX_rw (e : TypeId) (l : List UInt8) : (bufX e l).rw = true := by cases l <;> rfl
theorem sb_back {R : List (Nat × Nat)} {b nx : Nat} {u : Bool} {l' : List UInt8} {v : VV} (hv : Nameless v) (hR : R = [(b, 0)] ∨ ∃ m, m ≠ b ∧ m < nx ∧ R = [(b, 0), (m, 1)]) (hb : b < nx) : Back R 2 nx ⟨sbO u 0 2 l', 3⟩ v v (sbO u b nx l') := by
  have e1 : Nat.beq b nx = false := beq_ne (by omega)
  have e2 : Nat.blt nx (nx + 1) = true := blt_iff.2 (by omega)
  have e3 : Nat.blt b (nx + 1) = true := blt_iff.2 (by omega)
  have e4 : Nat.beq nx nx = true := Nat.beq_refl nx
  have e5 : Nat.beq b b = true := Nat.beq_refl b
  have e6 : Nat.beq nx b = false := beq_ne (by omega)
  have e7 : ∀ n, Nat.ble 0 n = true := fun n => Nat.ble_eq_true_of_le (Nat.zero_le n)
  have r1 := sbV_rw u b nx l'
  have r2 := bufX_rw 5 l'
  rcases hR with rfl | ⟨m, hmb, hmn, rfl⟩
  · have e0 : backR [(b, 0)] 2 nx (3 - 2) = [(2, nx), (0, b)] := rfl
    have s1 : srcOf [(2, nx), (0, b)] 0 b = some 0 := by simp only [srcOf0, srcN, e5, e6]
    have s2 : srcOf [(2, nx), (0, b)] 0 nx = some 2 := by simp only [srcOf0, srcN, e4]
    refine ⟨?_, .of hv, ?_⟩
    · show (wfR 0 (nx + 1) (backR [(b, 0)] 2 nx (3 - 2)) && nodupB (ksOf (backR [(b, 0)] 2 nx (3 - 2)) 0 (sbO u b nx l')) && (sbO u b nx l').all (fun p => (srcN (backR [(b, 0)] 2 nx (3 - 2)) p.1).isSome) && (sbO u b nx l').all (fun p => p.2.rw)) = true
      rw [e0]
      simp only [wfR, sbO, ksOf, s1, s2, srcN, e1, e2, e3, e4, e5, e6, e7, nodupB, List.all_cons, List.all_nil, r1, r2]
      rfl
    · show RenG (backR [(b, 0)] 2 nx (3 - 2)) 0 ⟨sbO u 0 2 l', 3⟩ (sbO u b nx l')
      rw [e0]
      refine ⟨?_, ?_, trivial⟩
      · rw [s1]
        exact ⟨_, rfl, sbV_ren (.ptr (by simp)) (by simp)⟩
      · rw [s2]
        exact ⟨_, rfl, buf_ren l'⟩
  · have e0 : backR [(b, 0), (m, 1)] 2 nx (3 - 2) = [(2, nx), (0, b), (1, m)] := rfl
    have f1 : Nat.beq m nx = false := beq_ne (by omega)
    have f2 : Nat.blt m (nx + 1) = true := blt_iff.2 (by omega)
    have f3 : Nat.beq m b = false := beq_ne hmb
    have f4 : Nat.beq m m = true := Nat.beq_refl m
    have s1 : srcOf [(2, nx), (0, b), (1, m)] 0 b = some 0 := by simp only [srcOf0, srcN, e5, e6]
    have s2 : srcOf [(2, nx), (0, b), (1, m)] 0 nx = some 2 := by simp only [srcOf0, srcN, e4]
    refine ⟨?_, .of hv, ?_⟩
    · show (wfR 0 (nx + 1) (backR [(b, 0), (m, 1)] 2 nx (3 - 2)) && nodupB (ksOf (backR [(b, 0), (m, 1)] 2 nx (3 - 2)) 0 (sbO u b nx l')) && (sbO u b nx l').all (fun p => (srcN (backR [(b, 0), (m, 1)] 2 nx (3 - 2)) p.1).isSome) && (sbO u b nx l').all (fun p => p.2.rw)) = true
      rw [e0]
      simp only [wfR, sbO, ksOf, s1, s2, srcN, e1, e2, e3, e4, e5, e6, e7, f1, f2, f3, f4, nodupB, List.all_cons, List.all_nil, r1, r2]
      rfl
    · show RenG (backR [(b, 0), (m, 1)] 2 nx (3 - 2)) 0 ⟨sbO u 0 2 l', 3⟩ (sbO u b nx l')
      rw [e0]
      refine ⟨?_, ?_, trivial⟩
      · rw [s1]
        exact ⟨_, rfl, sbV_ren (.ptr (by simp)) (by simp)⟩
      · rw [s2]
        exact ⟨_, rfl, buf_ren l'⟩
theorem sb_all {b nx : Nat} {u : Bool} {l' : List UInt8} {L : List Nat} (hb : memN b L = false) (hn : memN nx L = false) : ((sbO u b nx l').all fun p => !(memN p.1 L)) = true := by
  simp only [sbO, List.all_cons, List.all_nil, hb, hn]; rfl
/-- A call that is given a builder, at any names; p: whether the builder is written. -/
theorem VCall.sbAt {P : Program} {f : FuncId} {args args' : List VV} {u : Bool} {p : Bool → Prop} {l l' : List UInt8} {r : VV} {H : Heap} {b m : Nat} (hr : Nameless r) (ha : ∀ R, (b, 0) ∈ R → RenL R 0 args args') (h : VCall P f args' ⟨sbO u 0 1 l, 2⟩ (fun v K => v = r ∧ ∃ u', p u' ∧ K = ⟨sbO u' 0 2 l', 3⟩))
    (hb : H.get b = some (sbV u b m l)) (hm : H.get m = some (bufX 5 l)) (hbm : Nat.beq m b = false) : VCall P f args H (fun v K => v = r ∧ ∃ u', p u' ∧ K = ⟨sbO u' b H.next l' ++ restO [b, m] H.objs, H.next + 1⟩) := by
  have hmb : m ≠ b := fun e => by rw [e, Nat.beq_refl] at hbm; cases hbm
  refine VCall.live fun hlive => ?_
  have hbl := hlive b _ hb
  have hml := hlive m _ hm
  have hbm' : Nat.beq b m = false := beq_ne (fun e => hmb e.symm)
  have hbm2 : Nat.beq m b = false := hbm
  have s1 : srcOf [(b, 0), (m, 1)] 0 0 = some b := rfl
  have s2 : srcOf [(b, 0), (m, 1)] 0 1 = some m := rfl
  refine VCall.at (n1 := 2) (O1 := sbO u 0 1 l) [b, m] [(b, 0), (m, 1)] ?_ ⟨⟨_, (keepO_get (memN_iff.2 (by simp))).trans hb, sbV_ren (.ptr (by simp)) (by simp)⟩, ⟨_, (keepO_get (memN_iff.2 (by simp))).trans hm, buf_ren l⟩, trivial⟩ (ha _ (by simp)) h ?_
  · show (wfR 0 2 [(b, 0), (m, 1)] && nodupB [b, m] && _) = true
    simp only [nodupB, List.all_cons, List.all_nil, hbm']
    rfl
  · rintro v K ⟨rfl, u', hp, rfl⟩
    exact ⟨v, sbO u' b H.next l', sb_back hr (.inr ⟨m, hmb, hml, rfl⟩) hbl, sb_all (restO_none _ _ (memN_iff.2 (by simp)) _) (restO_live hlive), rfl, u', hp, rfl⟩
/-- The same for a builder that nothing was written to. -/
theorem VCall.sbAt0 {P : Program} {f : FuncId} {args args' : List VV} {p : Bool → Prop} {l' : List UInt8} {r : VV} {H : Heap} {b : Nat} (hr : Nameless r) (ha : ∀ R, (b, 0) ∈ R → RenL R 0 args args') (h : VCall P f args' ⟨sbO false 0 1 [], 2⟩ (fun v K => v = r ∧ ∃ u', p u' ∧ K = ⟨sbO u' 0 2 l', 3⟩))
    (hb : H.get b = some (sbV false 0 0 [])) : VCall P f args H (fun v K => v = r ∧ ∃ u', p u' ∧ K = ⟨sbO u' b H.next l' ++ restO [b] H.objs, H.next + 1⟩) := by
  refine VCall.live fun hlive => ?_
  have hbl := hlive b _ hb
  refine VCall.at (n1 := 2) (O1 := sbO false 0 1 []) [b] [(b, 0)] rfl ⟨⟨_, (keepO_get (memN_iff.2 (by simp))).trans hb, .raw⟩, rfl, trivial⟩ (ha _ (by simp)) h ?_
  rintro v K ⟨rfl, u', hp, rfl⟩
  exact ⟨v, sbO u' b H.next l', sb_back hr (.inl rfl) hbl, sb_all (restO_none _ _ (memN_iff.2 (by simp)) _) (restO_live hlive), rfl, u', hp, rfl⟩
theorem VCall.sbU {P : Program} {f : FuncId} {args : List VV} {H : Heap} {l' : List UInt8} {r : VV} (h : VCall P f args H (fun v K => v = r ∧ K = ⟨sbO true 0 2 l', 3⟩)) : VCall P f args H (fun v K => v = r ∧ ∃ u', (u' = false → l' = []) ∧ K = ⟨sbO u' 0 2 l', 3⟩) :=
  h.mono fun v K e => ⟨e.1, true, by simp, e.2⟩
theorem sb_args {b : Nat} (x : VV) (hx : Nameless x) : ∀ R, (b, 0) ∈ R → RenL R 0 [VV.ptr b 0, x] [.ptr 0 0, x] := fun R h => .cons (.ptr h) (.cons (.of hx) .nil)
theorem sb_args2 {b : Nat} (x : VV) (hx : Nameless x) : ∀ R, (b, 0) ∈ R → RenL R 0 [x, VV.ptr b 0] [x, .ptr 0 0] := fun R h => .cons (.of hx) (.cons (.ptr h) .nil)
/-- A builder's text, at any names. -/
theorem VCall.sbEnd {P : Program} {f : FuncId} {u : Bool} {l : List UInt8} {H : Heap} {b m : Nat} (h : VCall P f [.ptr 0 0] ⟨sbO u 0 1 l, 2⟩ (fun v K => v = strV l ∧ K = ⟨[], 2⟩))
    (hb : H.get b = some (sbV u b m l)) (hm : H.get m = some (bufX 5 l)) (hbm : Nat.beq m b = false) : VCall P f [.ptr b 0] H (fun v K => v = strV l ∧ K = ⟨restO [b, m] H.objs, H.next⟩) := by
  have hmb : m ≠ b := fun e => by rw [e, Nat.beq_refl] at hbm; cases hbm
  refine VCall.live fun hlive => ?_
  have hbl := hlive b _ hb
  have hml := hlive m _ hm
  have hbm' : Nat.beq b m = false := beq_ne (fun e => hmb e.symm)
  refine VCall.at (n1 := 2) (O1 := sbO u 0 1 l) [b, m] [(b, 0), (m, 1)] ?_ ⟨⟨_, (keepO_get (memN_iff.2 (by simp))).trans hb, sbV_ren (.ptr (by simp)) (by simp)⟩, ⟨_, (keepO_get (memN_iff.2 (by simp))).trans hm, buf_ren l⟩, trivial⟩ (.cons (.ptr (by simp)) .nil) h ?_
  · show (wfR 0 2 [(b, 0), (m, 1)] && nodupB [b, m] && _) = true
    simp only [nodupB, List.all_cons, List.all_nil, hbm']
    rfl
  · rintro v K ⟨rfl, rfl⟩
    have e1 : Nat.blt b H.next = true := blt_iff.2 hbl
    have e2 : Nat.blt m H.next = true := blt_iff.2 hml
    have e7 : ∀ n, Nat.ble 0 n = true := fun n => Nat.ble_eq_true_of_le (Nat.zero_le n)
    refine ⟨strV l, [], ⟨?_, .of (nameless_strV l), trivial⟩, rfl, rfl, rfl⟩
    show (wfR 0 (H.next + 0) [(0, b), (1, m)] && true && true && true) = true
    simp only [wfR, srcN, e1, e2, e7, hbm, Nat.add_zero]
    rfl
end Go.Proofs.Ytbnemkdkeaiaoaa
