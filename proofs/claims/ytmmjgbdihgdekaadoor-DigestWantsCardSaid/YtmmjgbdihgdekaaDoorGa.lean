import Derived.Test.YtmmjgbdihgdekaaDoorE5
import Derived.Test.YtmmjgbdihgdekaaDoorG2
/- all over Fields: the pieces without blanks. -/
namespace Go.Proofs.YtmmjgbdihgdekaaDoor
open Go Go.RowKit
set_option linter.unusedSimpArgs false
set_option linter.unusedVariables false
set_option maxRecDepth 100000
set_option maxHeartbeats 4000000
def blankB (b : UInt8) : Bool := b == 32 || b == 9
def fieldsGo : List UInt8 → List UInt8 → List (List UInt8)
  | [], cur => if cur.length = 0 then [] else [cur]
  | b :: r, cur => if blankB b then (if cur.length = 0 then fieldsGo r [] else cur :: fieldsGo r []) else fieldsGo r (cur ++ [b])
/-- The pieces without blanks. -/
def fieldsB (l : List UInt8) : List (List UInt8) := fieldsGo l []
def fieldsV (l : List UInt8) : VV := .fn (.func 107) [] [.rp [roB l] 0]
theorem fields_call (l : List UInt8) (H : Heap) (hl : l.length ≤ 140737488355328) : VCall Tryd.prog 59 [roB l] H (fun x K => x = fieldsV l ∧ K = H) := by
  refine VCall.frozen (Q := fun v K => Frz K v (fieldsV l)) (by simp [nameless_roB]) ?_ (fun v K h => h)
  refine VCall.go Tryd.func59 rfl ?_
  repeat' (first | with_reducible refine And.intro ?_ ?_ | ((with_reducible intro hc); (try simp only [zA, zB, zC, zD, zE, zF, zG, zH, zI, zJ, zK, zL, zM, zN, zO, zP, zQ, zR, zS, zT, zU, zV, zW] at hc); (first | (exact absurd rfl hc) | (exact absurd trivial hc) | (exfalso; omega) | skip)) | ((conv => whnf); first | with_reducible refine And.intro ?_ ?_ | refine ifB_intro ?_ ?_ | refine xA (by omega) ?_ | ((refine xB ?_); intro kw hk1 hk2) | refine xC (by omega) ?_ | refine xD ?_ | refine xE (by omega) ?_ | refine xF (by omega) ?_ | refine xG ?_ | refine xH ?_ | refine xI (by omega) ?_ | refine xJ (by omega) ?_ | (with_reducible refine stopA ?_) | refine Exists.intro _ (And.intro (by (first | rfl)) ?_) | refine GOp.via (by rfl) ?_ | (with_reducible first | refine stopO ?_ | refine stopE ?_ | refine stopD ?_ | refine stopW ?_ | refine stopG ?_) | (first | (refine GCall.mk ((clone_call l _ hl).mono ?_); rintro _ _ ⟨rfl, rfl⟩)) | (with_reducible refine stopC ?_) | (with_reducible refine stopR ?_)))
  exact Done'.mk (Frz.fn .nil (.cons (Frz.ptr (vs := [roB l]) rfl (FrzL.of (by simp [nameless_roB]))) .nil))
theorem blank_call (b : UInt8) (H : Heap) : VCall Tryd.prog 109 [bV b] H (fun x K => x = booV (blankB b) ∧ K = H) :=
  VCall.bytes mixed 60 blankB (by kernel_rfl) b H
theorem cut_next {l : List UInt8} {at_ i : Nat} {c : UInt8} (h : l[i]? = some c) (ha : at_ ≤ i) : (l.drop at_).take (i + 1 - at_) = (l.drop at_).take (i - at_) ++ [c] := by
  obtain ⟨hi, e⟩ := List.getElem?_eq_some_iff.1 h
  rw [show i + 1 - at_ = (i - at_) + 1 by omega, List.take_succ_eq_append_getElem (by simp; omega)]
  congr 1
  simp only [List.getElem_drop]
  congr 1
  rw [← e]
  congr 1
  omega
theorem fieldsGo_at {c : UInt8} {l : List UInt8} {i : Nat} (h : l[i]? = some c) (cur : List UInt8) : fieldsGo (l.drop i) cur = if blankB c then (if cur.length = 0 then fieldsGo (l.drop (i + 1)) [] else cur :: fieldsGo (l.drop (i + 1)) []) else fieldsGo (l.drop (i + 1)) (cur ++ [c]) := by
  obtain ⟨hi, e⟩ := List.getElem?_eq_some_iff.1 h
  rw [List.drop_eq_getElem_cons hi, e]
  rfl
theorem frz_gsS1 {K : Heap} {b : Nat} {d : List (List UInt8)} (hg : K.get b = some (.opt (d.map strV))) : Frz K (.gs b d.length 1) (roS d) := Frz.gs hg (by simp) (nameless_map nameless_strV d)
end Go.Proofs.YtmmjgbdihgdekaaDoor

/- The document's pieces without blanks, and what is left without the blanks at both ends. -/
namespace Go.Proofs.YtmmjgbdihgdekaaDoor
open Go Go.RowKit
set_option linter.unusedSimpArgs false
set_option linter.unusedVariables false
set_option maxRecDepth 100000
set_option maxHeartbeats 4000000
theorem rblank_call (b : UInt8) (H : Heap) : VCall Tryd.prog 112 [bV b] H (fun x K => x = booV (blankB b) ∧ K = H) :=
  VCall.bytes mixed 60 blankB (by kernel_rfl) b H
theorem strV_ne {l : List UInt8} (h : l.length ≠ 0) : l ≠ [] := fun e => h (by rw [e]; rfl)
theorem rfields_call (l : List UInt8) (H : Heap) (hl : l.length ≤ 100000) : VCall Tryd.prog 62 [strV l] H (fun x K => x = roS (fieldsB l) ∧ K = H) := by
  have hsz := str_size l
  refine VCall.frozen (Q := fun v K => Frz K v (roS (fieldsB l))) (by simp [nameless_strV]) ?_ (fun v K h => h)
  refine VCall.go Tryd.func62 rfl ?_
  repeat' (first | with_reducible refine And.intro ?_ ?_ | ((with_reducible intro hc); (try simp only [zA, zB, zC, zD, zE, zF, zG, zH, zI, zJ, zK, zL, zM, zN, zO, zP, zQ, zR, zS, zT, zU, zV, zW] at hc); (first | (exact absurd rfl hc) | (exact absurd trivial hc) | (exfalso; omega) | skip)) | ((conv => whnf); first | with_reducible refine And.intro ?_ ?_ | refine ifB_intro ?_ ?_ | refine xA (by omega) ?_ | ((refine xB ?_); intro kw hk1 hk2) | refine xC (by omega) ?_ | refine xD ?_ | refine xE (by omega) ?_ | refine xF (by omega) ?_ | refine xG ?_ | refine xH ?_ | refine xI (by omega) ?_ | refine xJ (by omega) ?_ | (with_reducible refine stopA ?_) | refine Exists.intro _ (And.intro (by rfl) ?_) | refine GOp.via (by rfl) ?_ | (with_reducible first | refine stopO ?_ | refine stopE ?_ | refine stopD ?_ | refine stopW ?_ | refine stopG ?_ | refine stopC ?_ | refine stopR ?_)))
  (refine GWP'.mk (GWP.loopB [0] (fun (s : List (List UInt8) × List UInt8 × Nat) => s.2.2 ≤ l.length ∧ s.1.length ≤ s.2.2 ∧ s.2.1.length ≤ s.2.2 ∧ (s.2.2 = l.length → s.2.1 = []) ∧ s.1 ++ fieldsGo (l.drop s.2.2) s.2.1 = fieldsB l) (fun s => [(3, .gs 1 s.1.length 1), (4, strV s.2.1), (5, iV s.2.2)]) (fun s => [(1, .opt (s.1.map strV))]) 2 (fun s => l.length - s.2.2) ([], [], 0) ⟨Nat.zero_le _, Nat.zero_le _, Nat.zero_le _, fun _ => rfl, rfl⟩ ?_); (conv => whnf); refine And.intro ?_ ?_)
  · focus (refine KeptA.of [] rfl rfl (by repeat' (first | exact trivial | refine And.intro rfl ?_)) rfl ?_ ?_; all_goals (repeat' (first | exact trivial | (refine And.intro ?_ ?_) | (refine Exists.intro _ (And.intro rfl ?_)) | (refine RenO.opt ?_) | (refine RenO.toOpt ?_) | (refine RenO.cells ?_) | exact RenO.defs | exact RenL.nil | (refine RenL.cons ?_ ?_) | (first | (first | exact RenV.gsZ | exact RenV.eq rfl (nameless_strV _)) | (with_reducible exact RenV.sc) | exact RenV.gsN | exact RenV.gsZ | exact RenV.gsL (by decide) | exact RenV.slL (by decide) | ((first | refine RenV.gsE (by (first | exact List.Mem.head _ | exact List.Mem.tail _ (List.Mem.head _) | exact List.Mem.tail _ (List.Mem.tail _ (List.Mem.head _)) | (simp; done))) ?_ | refine RenV.eq (scI_eq ?_) (nameless_sc _)); (first | rfl | omega | (simp only [List.length_append, List.length_cons, List.length_nil, List.length_map, List.length_take, List.length_drop] <;> omega) | (simp only <;> omega) | (simp <;> omega))) | exact RenV.undef) | (with_unfolding_all exact (rfl : (_ : VObj) = _)))))
  rintro ⟨done, cur, i⟩ ⟨h1, h2, h3, h5, h4⟩
  simp only at h1 h2 h3 h4 h5 ⊢
  by_cases hil : i < l.length
  · obtain ⟨c, hb⟩ := list_at hil
    have hext := ext1 hb (x := ((i : Int)).toNat) (y := ((i : Int) + 1).toNat) (by omega) (by omega)
    rw [fieldsGo_at hb] at h4
    have hbl := fun H => rblank_call c H
    have hcz := str_size cur
    by_cases hc : blankB c = true
    · rw [hc] at hbl
      rw [if_pos hc] at h4
      by_cases hx0 : cur.length = 0
      · rw [if_pos hx0] at h4
        have hx1 : cur = [] := List.eq_nil_of_length_eq_zero hx0
        subst hx1
        repeat' (first | with_reducible refine And.intro ?_ ?_ | ((with_reducible intro hc); (try simp only [zA, zB, zC, zD, zE, zF, zG, zH, zI, zJ, zK, zL, zM, zN, zO, zP, zQ, zR, zS, zT, zU, zV, zW] at hc); (first | (exact absurd rfl hc) | (exact absurd trivial hc) | (exfalso; omega) | skip)) | exact Is.mk rfl rfl | ((conv => whnf); first | with_reducible refine And.intro ?_ ?_ | with_reducible intro hx | exact Is.mk rfl rfl | (with_reducible first | apply Val.via | apply ValH.via) | refine ifB_intro ?_ ?_ | refine xA (by omega) ?_ | ((refine xB ?_); intro kw hk1 hk2) | refine xC (by omega) ?_ | refine xD ?_ | refine xE (by omega) ?_ | refine xF (by omega) ?_ | refine xG ?_ | refine xH ?_ | refine xI (by omega) ?_ | refine xJ (by omega) ?_ | (with_reducible refine stopA ?_) | refine Exists.intro _ (And.intro (by (first | exact hb | rfl)) ?_) | refine GOp.drawn (by rfl) (by rfl) (Nat.le_of_ble_eq_true (by rfl)) (by rfl) | refine GOp.via (by rfl) ?_ | refine GWP.drawY mixed _ (by kernel_rfl) (by rfl) ?_ | (refine GCall.mk ((hbl _).mono ?_); rintro _ _ ⟨rfl, rfl⟩) | (with_reducible first | refine stopO ?_ | refine stopE ?_ | refine stopD ?_ | refine stopW ?_ | refine stopG ?_ | refine stopC ?_ | refine stopR ?_)))
        all_goals (first | omega | skip)
        focus (refine Done'.mk ⟨(done, [], i + 1), ⟨by simp only; omega, by simp only; omega, by simp only [List.length_nil]; omega, fun _ => rfl, h4⟩, ?_, KeptA.of [(1, 1)] rfl rfl (by repeat' (first | exact trivial | refine And.intro rfl ?_)) rfl ?_ ?_⟩; (first | omega | (simp only; omega)); all_goals (repeat' (first | exact trivial | (refine And.intro ?_ ?_) | (refine Exists.intro _ (And.intro rfl ?_)) | (refine RenO.opt ?_) | (refine RenO.toOpt ?_) | (refine RenO.cells ?_) | exact RenO.defs | exact RenL.nil | (refine RenL.cons ?_ ?_) | (first | (first | exact RenL.of (nameless_map nameless_strV _) | exact RenV.eq rfl (nameless_strV _) | exact RenV.eq (scI_eq (by omega)) (nameless_sc _)) | (with_reducible exact RenV.sc) | exact RenV.gsN | exact RenV.gsZ | exact RenV.gsL (by decide) | exact RenV.slL (by decide) | ((first | refine RenV.gsE (by (first | exact List.Mem.head _ | exact List.Mem.tail _ (List.Mem.head _) | exact List.Mem.tail _ (List.Mem.tail _ (List.Mem.head _)) | (simp; done))) ?_ | refine RenV.eq (scI_eq ?_) (nameless_sc _)); (first | rfl | omega | (simp only [List.length_append, List.length_cons, List.length_nil, List.length_map, List.length_take, List.length_drop] <;> omega) | (simp only <;> omega) | (simp <;> omega))) | exact RenV.undef) | (with_unfolding_all exact (rfl : (_ : VObj) = _)))))
      · rw [if_neg hx0] at h4
        repeat' (first | with_reducible refine And.intro ?_ ?_ | ((with_reducible intro hc); (try simp only [zA, zB, zC, zD, zE, zF, zG, zH, zI, zJ, zK, zL, zM, zN, zO, zP, zQ, zR, zS, zT, zU, zV, zW] at hc); (first | (exact absurd rfl hc) | (exact absurd trivial hc) | (exfalso; omega) | skip)) | exact Is.mk rfl rfl | ((conv => whnf); first | with_reducible refine And.intro ?_ ?_ | with_reducible intro hx | exact Is.mk rfl rfl | (with_reducible first | apply Val.via | apply ValH.via) | refine ifB_intro ?_ ?_ | refine xA (by omega) ?_ | ((refine xB ?_); intro kw hk1 hk2) | refine xC (by omega) ?_ | refine xD ?_ | refine xE (by omega) ?_ | refine xF (by omega) ?_ | refine xG ?_ | refine xH ?_ | refine xI (by omega) ?_ | refine xJ (by omega) ?_ | (with_reducible refine stopA ?_) | refine Exists.intro _ (And.intro (by (first | exact hb | rfl)) ?_) | refine GOp.drawn (by rfl) (by rfl) (Nat.le_of_ble_eq_true (by rfl)) (by rfl) | refine GOp.via (by rfl) ?_ | refine GWP.drawY mixed _ (by kernel_rfl) (by rfl) ?_ | (first | (refine GCall.mk ((hbl _).mono ?_); rintro _ _ ⟨rfl, rfl⟩) | (refine stopO (GOp'.grow rfl sty_s (d := .slice 9) Tryd.underlying57 (by intro k h; cases h) rfl (m := 1) (l := [strV cur]) (by rfl) (by rfl) rfl (by simp) (by omega) (by omega) ?_))) | (with_reducible first | refine stopO ?_ | refine stopE ?_ | refine stopD ?_ | refine stopW ?_ | refine stopG ?_ | refine stopC ?_ | refine stopR ?_)))
        all_goals (first | omega | (exfalso; exact strV_ne hx0 hc) | skip)
        focus (refine Done'.mk ⟨(done ++ [cur], [], i + 1), ⟨by simp only; omega, by simp only [List.length_append, List.length_cons, List.length_nil]; omega, by simp only [List.length_nil]; omega, fun _ => rfl, by simp only; rw [← h4]; simp⟩, ?_, KeptA.of [(3, 1)] rfl rfl (by repeat' (first | exact trivial | refine And.intro rfl ?_)) rfl ?_ ?_⟩; (first | omega | (simp only; omega)); all_goals (repeat' (first | exact trivial | (refine And.intro ?_ ?_) | (refine Exists.intro _ (And.intro rfl ?_)) | (refine RenO.opt ?_) | (refine RenO.toOpt ?_) | (refine RenO.cells ?_) | exact RenO.defs | exact RenL.nil | (refine RenL.cons ?_ ?_) | (first | (first | exact RenL.eq (by simp) (nameless_map nameless_strV _) | exact RenV.eq rfl (nameless_strV _) | exact RenV.eq (scI_eq (by omega)) (nameless_sc _)) | (with_reducible exact RenV.sc) | exact RenV.gsN | exact RenV.gsZ | exact RenV.gsL (by decide) | exact RenV.slL (by decide) | ((first | refine RenV.gsE (by (first | exact List.Mem.head _ | exact List.Mem.tail _ (List.Mem.head _) | exact List.Mem.tail _ (List.Mem.tail _ (List.Mem.head _)) | (simp; done))) ?_ | refine RenV.eq (scI_eq ?_) (nameless_sc _)); (first | rfl | omega | (simp only [List.length_append, List.length_cons, List.length_nil, List.length_map, List.length_take, List.length_drop] <;> omega) | (simp only <;> omega) | (simp <;> omega))) | exact RenV.undef) | (with_unfolding_all exact (rfl : (_ : VObj) = _)))))
    · have hcf : blankB c = false := by simpa using hc
      rw [hcf] at hbl
      rw [if_neg hc] at h4
      have happ : (⟨cur.toArray⟩ : ByteArray) ++ (⟨l.toArray⟩ : ByteArray).extract ((i : Int)).toNat (((i : Int) + 1).toNat) = ⟨(cur ++ [c]).toArray⟩ := by rw [hext, app_str]
      have hnz := str_size (cur ++ [c])
      have hnl : (cur ++ [c]).length = cur.length + 1 := by simp
      by_cases hlast : i + 1 = l.length
      · have hdr : l.drop (i + 1) = [] := List.drop_eq_nil_of_le (by omega)
        have h4' : done ++ [cur ++ [c]] = fieldsB l := by
          rw [hdr] at h4
          have : fieldsGo [] (cur ++ [c]) = [cur ++ [c]] := by unfold fieldsGo; rw [if_neg (by omega)]
          rwa [this] at h4
        repeat' (first | with_reducible refine And.intro ?_ ?_ | ((with_reducible intro hc); (try simp only [zA, zB, zC, zD, zE, zF, zG, zH, zI, zJ, zK, zL, zM, zN, zO, zP, zQ, zR, zS, zT, zU, zV, zW] at hc); (first | (exact absurd rfl hc) | (exact absurd trivial hc) | (exfalso; omega) | skip)) | exact Is.mk rfl rfl | ((conv => whnf); first | with_reducible refine And.intro ?_ ?_ | with_reducible intro hx | exact Is.mk rfl rfl | (with_reducible first | apply Val.via | apply ValH.via) | refine ifB_intro ?_ ?_ | refine xA (by omega) ?_ | ((refine xB ?_); intro kw hk1 hk2) | refine xC (by omega) ?_ | refine xD ?_ | refine xE (by omega) ?_ | refine xF (by omega) ?_ | refine xG ?_ | refine xH ?_ | refine xI (by omega) ?_ | refine xJ (by omega) ?_ | (with_reducible refine stopA ?_) | refine Exists.intro _ (And.intro (by (first | exact hb | rfl)) ?_) | refine GOp.drawn (by rfl) (by rfl) (Nat.le_of_ble_eq_true (by rfl)) (by rfl) | refine GOp.via (by rfl) ?_ | refine GWP.drawY mixed _ (by kernel_rfl) (by rfl) ?_ | (first | (refine GCall.mk ((hbl _).mono ?_); rintro _ _ ⟨rfl, rfl⟩) | (refine stopO (GOp'.grow rfl sty_s (d := .slice 9) Tryd.underlying57 (by intro k h; cases h) rfl (m := 1) (l := [(VV.sc (.string ((⟨cur.toArray⟩ : ByteArray) ++ (⟨l.toArray⟩ : ByteArray).extract ((i : Int)).toNat (((i : Int) + 1).toNat))))]) (by rfl) (by rfl) rfl (by simp) (by omega) (by omega) ?_))) | (with_reducible first | refine stopO ?_ | refine stopE ?_ | refine stopD ?_ | refine stopW ?_ | refine stopG ?_ | refine stopC ?_ | refine stopR ?_)))
        all_goals (first | omega | (exact absurd hx (by rw [hext]; exact szk (by simp; omega))) | (exfalso; rw [happ] at hc; simp at hc; done) | skip)
        focus (refine Done'.mk ⟨(done ++ [cur ++ [c]], [], i + 1), ⟨by simp only; omega, by simp only [List.length_append, List.length_cons, List.length_nil]; omega, by simp only [List.length_nil]; omega, fun _ => rfl, by simp only; rw [← h4', hdr]; exact List.append_nil _⟩, ?_, KeptA.of [(3, 1)] rfl rfl (by repeat' (first | exact trivial | refine And.intro rfl ?_)) rfl ?_ ?_⟩; (first | omega | (simp only; omega)); all_goals (repeat' (first | exact trivial | (refine And.intro ?_ ?_) | (refine Exists.intro _ (And.intro rfl ?_)) | (refine RenO.opt ?_) | (refine RenO.toOpt ?_) | (refine RenO.cells ?_) | exact RenO.defs | exact RenL.nil | (refine RenL.cons ?_ ?_) | (first | (first | exact RenL.eq (by rw [happ]; simp [strV]) (nameless_map nameless_strV _) | exact RenV.eq rfl (nameless_strV _) | exact RenV.eq (scI_eq (by omega)) (nameless_sc _)) | (with_reducible exact RenV.sc) | exact RenV.gsN | exact RenV.gsZ | exact RenV.gsL (by decide) | exact RenV.slL (by decide) | ((first | refine RenV.gsE (by (first | exact List.Mem.head _ | exact List.Mem.tail _ (List.Mem.head _) | exact List.Mem.tail _ (List.Mem.tail _ (List.Mem.head _)) | (simp; done))) ?_ | refine RenV.eq (scI_eq ?_) (nameless_sc _)); (first | rfl | omega | (simp only [List.length_append, List.length_cons, List.length_nil, List.length_map, List.length_take, List.length_drop] <;> omega) | (simp only <;> omega) | (simp <;> omega))) | exact RenV.undef) | (with_unfolding_all exact (rfl : (_ : VObj) = _)))))
      · repeat' (first | with_reducible refine And.intro ?_ ?_ | ((with_reducible intro hc); (try simp only [zA, zB, zC, zD, zE, zF, zG, zH, zI, zJ, zK, zL, zM, zN, zO, zP, zQ, zR, zS, zT, zU, zV, zW] at hc); (first | (exact absurd rfl hc) | (exact absurd trivial hc) | (exfalso; omega) | skip)) | exact Is.mk rfl rfl | ((conv => whnf); first | with_reducible refine And.intro ?_ ?_ | with_reducible intro hx | exact Is.mk rfl rfl | (with_reducible first | apply Val.via | apply ValH.via) | refine ifB_intro ?_ ?_ | refine xA (by omega) ?_ | ((refine xB ?_); intro kw hk1 hk2) | refine xC (by omega) ?_ | refine xD ?_ | refine xE (by omega) ?_ | refine xF (by omega) ?_ | refine xG ?_ | refine xH ?_ | refine xI (by omega) ?_ | refine xJ (by omega) ?_ | (with_reducible refine stopA ?_) | refine Exists.intro _ (And.intro (by (first | exact hb | rfl)) ?_) | refine GOp.drawn (by rfl) (by rfl) (Nat.le_of_ble_eq_true (by rfl)) (by rfl) | refine GOp.via (by rfl) ?_ | refine GWP.drawY mixed _ (by kernel_rfl) (by rfl) ?_ | (first | (refine GCall.mk ((hbl _).mono ?_); rintro _ _ ⟨rfl, rfl⟩) | (refine stopO (GOp'.grow rfl sty_s (d := .slice 9) Tryd.underlying57 (by intro k h; cases h) rfl (m := 1) (l := [(VV.sc (.string ((⟨cur.toArray⟩ : ByteArray) ++ (⟨l.toArray⟩ : ByteArray).extract ((i : Int)).toNat (((i : Int) + 1).toNat))))]) (by rfl) (by rfl) rfl (by simp) (by omega) (by omega) ?_))) | (with_reducible first | refine stopO ?_ | refine stopE ?_ | refine stopD ?_ | refine stopW ?_ | refine stopG ?_ | refine stopC ?_ | refine stopR ?_)))
        all_goals (first | omega | (exact absurd hx (by rw [hext]; exact szk (by simp; omega))) | (exfalso; rw [happ] at hc; simp at hc; done) | skip)
        focus (refine Done'.mk ⟨(done, cur ++ [c], i + 1), ⟨by simp only; omega, by simp only; omega, by simp only; omega, fun h => absurd h hlast, h4⟩, ?_, KeptA.of [(1, 1)] rfl rfl (by repeat' (first | exact trivial | refine And.intro rfl ?_)) rfl ?_ ?_⟩; (first | omega | (simp only; omega)); all_goals (repeat' (first | exact trivial | (refine And.intro ?_ ?_) | (refine Exists.intro _ (And.intro rfl ?_)) | (refine RenO.opt ?_) | (refine RenO.toOpt ?_) | (refine RenO.cells ?_) | exact RenO.defs | exact RenL.nil | (refine RenL.cons ?_ ?_) | (first | (first | exact RenL.of (nameless_map nameless_strV _) | exact RenV.eq (congrArg (fun b => VV.sc (.string b)) happ) (nameless_strV _) | exact RenV.eq (scI_eq (by omega)) (nameless_sc _)) | (with_reducible exact RenV.sc) | exact RenV.gsN | exact RenV.gsZ | exact RenV.gsL (by decide) | exact RenV.slL (by decide) | ((first | refine RenV.gsE (by (first | exact List.Mem.head _ | exact List.Mem.tail _ (List.Mem.head _) | exact List.Mem.tail _ (List.Mem.tail _ (List.Mem.head _)) | (simp; done))) ?_ | refine RenV.eq (scI_eq ?_) (nameless_sc _)); (first | rfl | omega | (simp only [List.length_append, List.length_cons, List.length_nil, List.length_map, List.length_take, List.length_drop] <;> omega) | (simp only <;> omega) | (simp <;> omega))) | exact RenV.undef) | (with_unfolding_all exact (rfl : (_ : VObj) = _)))))
  · obtain rfl : i = l.length := by omega
    have h5 := h5 rfl
    subst h5
    rw [List.drop_length] at h4
    have h4 : done ++ [] = fieldsB l := h4
    rw [List.append_nil] at h4
    rw [← h4]
    repeat' (first | with_reducible refine And.intro ?_ ?_ | ((with_reducible intro hc); (try simp only [zA, zB, zC, zD, zE, zF, zG, zH, zI, zJ, zK, zL, zM, zN, zO, zP, zQ, zR, zS, zT, zU, zV, zW] at hc); (first | (exact absurd rfl hc) | (exact absurd trivial hc) | (exfalso; omega) | skip)) | exact Is.mk rfl rfl | ((conv => whnf); first | with_reducible refine And.intro ?_ ?_ | with_reducible intro hx | exact Is.mk rfl rfl | (with_reducible first | apply Val.via | apply ValH.via) | refine ifB_intro ?_ ?_ | refine xA (by omega) ?_ | ((refine xB ?_); intro kw hk1 hk2) | refine xC (by omega) ?_ | refine xD ?_ | refine xE (by omega) ?_ | refine xF (by omega) ?_ | refine xG ?_ | refine xH ?_ | refine xI (by omega) ?_ | refine xJ (by omega) ?_ | (with_reducible refine stopA ?_) | refine Exists.intro _ (And.intro (by rfl) ?_) | refine GOp.drawn (by rfl) (by rfl) (Nat.le_of_ble_eq_true (by rfl)) (by rfl) | refine GOp.via (by rfl) ?_ | refine GWP.drawY mixed _ (by kernel_rfl) (by rfl) ?_ | fail | (with_reducible first | refine stopO ?_ | refine stopE ?_ | refine stopD ?_ | refine stopW ?_ | refine stopG ?_ | refine stopC ?_ | refine stopR ?_)))
    all_goals (first | omega | skip)
    exact Done'.mk (frz_gsS1 rfl)
end Go.Proofs.YtmmjgbdihgdekaaDoor

