import Derived.Test.YtnmjdjldbloefaaGreatDoorWU1
import Derived.Test.YtnmjdjldbloefaaGreatDoorH7
import Derived.Test.YtnmjdjldbloefaaGreatDoorE3
import Derived.ProofKit
import Derived.OpenShut
import Derived.Test.YtnmjdjldbloefaaGreatDoorCards
import Derived.Test.YtnmjdjldbloefaaGreatDoorTie
import Derived.ShutString
import Derived.ChangeOld
import Derived.Below
import Derived.Lib.SmallJoins
import Derived.Deep.DeepHandedRow
import Derived.Lib.LaidTab
/- The law TreeWalks, walked. -/
namespace Go.Proofs.YtnmjdjldbloefaaGreatDoor
open Go Go.RowKit
set_option linter.unusedSimpArgs false
set_option linter.unusedVariables false
set_option maxRecDepth 100000
set_option maxHeartbeats 8000000
theorem mulk {a b z k : Nat} (hz : z = k) (h : a = b) : a * z = b * k := by subst hz h; rfl
theorem mulk3 {a b z k f e : Nat} (hz : z = k) (h : a = b) (hf : f = e) : a * z + f = b * k + e := by subst hz h hf; rfl
theorem vagg_IW : vagg Tryz.prog 3 = some false := by kernel_rfl
theorem vagg_NS : vagg Tryz.prog 25 = some false := by kernel_rfl
theorem vat_ds {l : List (Nat × Nd)} {i o d : Nat} {n : Nd} (h : l[i]? = some (d, n)) (ho : o = i) : vat Tryz.prog 3 (dsR l) o = some (iV d) := vat_of vagg_IW (by unfold dsR; rw [List.getElem?_map, h]; rfl) ho
theorem map_nd {l : List (Nat × Nd)} {i d : Nat} {n : Nd} (h : l[i]? = some (d, n)) : (l.map (·.2))[i]? = some n := by rw [List.getElem?_map, h]; rfl
theorem vat_ns {l : List (Nat × Nd)} {i o d op nm : Nat} {tx : List UInt8} {ks : List Nd} (h : l[i]? = some (d, .mk op tx nm ks)) (ho : o = i * 4) : vat Tryz.prog 27 (nsR l) o = some (.ag [iV op, strV tx, iV nm, .ro ks.length (rowsN ks)]) := vat_rowsN (map_nd h) ho
theorem rows_kids : ∀ (l : List Nd) (i op nm : Nat) (tx : List UInt8) (ks : List Nd), l[i]? = some (.mk op tx nm ks) → (rowsN l)[i * 4 + 3]? = some (.ro ks.length (rowsN ks))
  | [], i, op, nm, tx, ks, h => by simp at h
  | q :: r, 0, op, nm, tx, ks, h => by
    simp at h
    subst h
    rw [rowsN, cellsN]
    rfl
  | q :: r, i + 1, op, nm, tx, ks, h => by
    have ih := rows_kids r i op nm tx ks (by simpa using h)
    rw [rowsN, List.getElem?_append_right (by rw [cellsN_len]; omega), cellsN_len, show (i + 1) * 4 + 3 - 4 = i * 4 + 3 by omega]
    exact ih
theorem vat_kids {l : List (Nat × Nd)} {i o d op nm : Nat} {tx : List UInt8} {ks : List Nd} (h : l[i]? = some (d, .mk op tx nm ks)) (ho : o = i * 4 + 3) : vat Tryz.prog 25 (nsR l) o = some (.ro ks.length (rowsN ks)) := vat_of vagg_NS (rows_kids _ _ _ _ _ _ (map_nd h)) ho
theorem parseT_bad (t : List UInt8) (h : (parseT t).2 ≠ 0) : (parseT t).1 = nd0 := by
  unfold parseT at h ⊢
  split at h
  · rfl
  · rename_i l hs
    split
    · rfl
    · rename_i h1
      rw [if_neg h1] at h
      split
      · rfl
      · rename_i h2
        rw [if_neg h2] at h
        exact absurd rfl h
mutual
theorem walkN_cnt : ∀ (n : Nd) (d : Nat), ∀ x ∈ walkN d n, x.1 + cntN x.2 ≤ d + cntN n ∧ cntN x.2 ≤ cntN n
  | .mk o t m ks, d, x, hx => by
    rw [walkN] at hx
    rcases List.mem_cons.1 hx with rfl | hx
    · exact ⟨Nat.le_refl _, Nat.le_refl _⟩
    · have := walkL_cnt ks (d + 1) x hx
      rw [cntN]
      omega
theorem walkL_cnt : ∀ (l : List Nd) (d : Nat), ∀ x ∈ walkL d l, x.1 + cntN x.2 ≤ d + cntL l ∧ cntN x.2 ≤ cntL l
  | [], d, x, hx => by rw [walkL] at hx; cases hx
  | k :: r, d, x, hx => by
    rw [walkL] at hx
    rw [cntL]
    rcases List.mem_append.1 hx with hx | hx
    · have := walkN_cnt k d x hx; omega
    · have := walkL_cnt r d x hx; omega
end
theorem wk_call (n : Nd) (H : Heap) : VCall Tryz.prog 15 [nV n] H (fun v K => v = .fn (.func 33) [] [.rp (cellsN n) 0] ∧ K = H) := by
  refine VCall.frozen (Q := fun v K => Frz K v (.fn (.func 33) [] [.rp (cellsN n) 0])) (by simp [nameless_nV]) ?_ (fun v K h => h)
  obtain ⟨op, tx, nm, ks⟩ := n
  rw [nV, cellsN]
  refine VCall.go Tryz.func15 rfl ?_
  (repeat' (first | with_reducible refine And.intro ?_ ?_ | ((with_reducible intro hc); (try simp only [zA, zB, zC, zD, zE, zF, zG, zH, zI, zJ, zK, zL, zM, zN, zO, zP, zQ, zR, zS, zT, zU, zV, zW] at hc); (first | (exact absurd rfl hc) | (exact absurd trivial hc) | (exfalso; omega) | skip)) | exact Is.mk rfl rfl | ((conv => whnf); first | with_reducible refine And.intro ?_ ?_ | with_reducible intro hx | exact Is.mk rfl rfl | (with_reducible first | apply Val.via | apply ValH.via) | refine ifB_intro ?_ ?_ | refine xA (by omega) ?_ | ((refine xB ?_); intro kw hk1 hk2) | refine xC (by omega) ?_ | refine xD ?_ | refine xE (by omega) ?_ | refine xF (by omega) ?_ | refine xG ?_ | refine xH ?_ | refine xI (by omega) ?_ | refine xJ (by omega) ?_ | (with_reducible refine stopA ?_) | refine Exists.intro _ (And.intro (by (first | exact vat_nd rfl rfl | exact vat_ds hw0 (mul1 rfl rfl) | exact vat_ns hw0 (mulk rfl rfl) | exact vat_of rfl rfl rfl | rfl)) ?_) | refine GOp.drawn (by rfl) (by rfl) (Nat.le_of_ble_eq_true (by rfl)) (by rfl) | refine GOp.via (by rfl) ?_ | fail | (with_reducible first | refine stopO ?_ | refine stopE ?_ | refine stopD ?_ | refine stopW ?_ | refine stopG ?_ | refine stopC ?_ | refine stopR ?_))))
  (all_goals (first | omega | contradiction | skip))
  all_goals exact Done'.mk (Frz.fn .nil (.cons (Frz.ptr rfl (FrzL.of (by have := cellsN_nameless (.mk op tx nm ks); rw [cellsN] at this; exact this))) .nil))
theorem treeWalks_walk (t : List UInt8) : VCall Tryz.prog 6 [roB t] ⟨[], 0⟩ (fun v _ => v = .sc (.bool true)) := by
  have kl := fun H => lives20_call H
  by_cases ht : t.length ≤ 800
  case neg =>
    refine VCall.go Tryz.func6 rfl ?_
    (repeat' (first | with_reducible refine And.intro ?_ ?_ | ((with_reducible intro hc); (try simp only [zA, zB, zC, zD, zE, zF, zG, zH, zI, zJ, zK, zL, zM, zN, zO, zP, zQ, zR, zS, zT, zU, zV, zW] at hc); (first | (exact absurd rfl hc) | (exact absurd trivial hc) | (exfalso; omega) | skip)) | exact Is.mk rfl rfl | ((conv => whnf); first | with_reducible refine And.intro ?_ ?_ | with_reducible intro hx | exact Is.mk rfl rfl | (with_reducible first | apply Val.via | apply ValH.via) | refine ifB_intro ?_ ?_ | refine xA (by omega) ?_ | ((refine xB ?_); intro kw hk1 hk2) | refine xC (by omega) ?_ | refine xD ?_ | refine xE (by omega) ?_ | refine xF (by omega) ?_ | refine xG ?_ | refine xH ?_ | refine xI (by omega) ?_ | refine xJ (by omega) ?_ | (with_reducible refine stopA ?_) | refine Exists.intro _ (And.intro (by (first | exact vat_nd rfl rfl | exact vat_ds hw0 (mul1 rfl rfl) | exact vat_ns hw0 (mulk rfl rfl) | exact vat_of rfl rfl rfl | rfl)) ?_) | refine GOp.drawn (by rfl) (by rfl) (Nat.le_of_ble_eq_true (by rfl)) (by rfl) | refine GOp.via (by rfl) ?_ | (refine GCall.mk ((kl _).mono ?_); rintro _ _ ⟨rfl, rfl⟩) | (with_reducible first | refine stopO ?_ | refine stopE ?_ | refine stopD ?_ | refine stopW ?_ | refine stopG ?_ | refine stopC ?_ | refine stopR ?_))))
    (all_goals (first | omega | contradiction | skip))
    all_goals exact Done'.mk rfl
  have kp := fun H => parse_call t (by omega) H
  have hcnt := parseT_cnt t
  by_cases he : (parseT t).2 = 0
  case neg =>
    have hb := parseT_bad t he
    rw [hb, show nV nd0 = .ag [iV 0, strV [], iV 0, .ro 0 []] by rw [nd0, nV, cellsN, rowsN]; rfl] at kp
    generalize (parseT t).2 = e at *
    refine VCall.go Tryz.func6 rfl ?_
    (repeat' (first | with_reducible refine And.intro ?_ ?_ | ((with_reducible intro hc); (try simp only [zA, zB, zC, zD, zE, zF, zG, zH, zI, zJ, zK, zL, zM, zN, zO, zP, zQ, zR, zS, zT, zU, zV, zW] at hc); (first | (exact absurd rfl hc) | (exact absurd trivial hc) | (exfalso; omega) | skip)) | exact Is.mk rfl rfl | ((conv => whnf); first | with_reducible refine And.intro ?_ ?_ | with_reducible intro hx | exact Is.mk rfl rfl | (with_reducible first | apply Val.via | apply ValH.via) | refine ifB_intro ?_ ?_ | refine xA (by omega) ?_ | ((refine xB ?_); intro kw hk1 hk2) | refine xC (by omega) ?_ | refine xD ?_ | refine xE (by omega) ?_ | refine xF (by omega) ?_ | refine xG ?_ | refine xH ?_ | refine xI (by omega) ?_ | refine xJ (by omega) ?_ | (with_reducible refine stopA ?_) | refine Exists.intro _ (And.intro (by (first | exact vat_nd rfl rfl | exact vat_ds hw0 (mul1 rfl rfl) | exact vat_ns hw0 (mulk rfl rfl) | exact vat_of rfl rfl rfl | rfl)) ?_) | refine GOp.drawn (by rfl) (by rfl) (Nat.le_of_ble_eq_true (by rfl)) (by rfl) | refine GOp.via (by rfl) ?_ | (first | (refine GCall.mk ((kl _).mono ?_); rintro _ _ ⟨rfl, rfl⟩) | (refine GCall.mk ((kp _).mono ?_); rintro _ _ ⟨rfl, rfl⟩)) | (with_reducible first | refine stopO ?_ | refine stopE ?_ | refine stopD ?_ | refine stopW ?_ | refine stopG ?_ | refine stopC ?_ | refine stopR ?_))))
    (all_goals (first | omega | contradiction | skip))
    all_goals exact Done'.mk rfl
  have he : (parseT t).2 = 0 := he
  rw [he] at kp
  generalize (parseT t).1 = n at *
  clear he
  have kw := fun H => wk_call n H
  have ka := fun H => all_call n (by omega) H
  have kc := fun H => count_call 14000 n hcnt (by omega) H
  have ks := fun n (hn : cntN n ≤ 14000) H => same_call 14000 n hn (by omega) H
  have hch := chainN n 0
  have hwl := walkN_len 0 n
  have hwc := walkN_cnt n 0
  have hwe := walkN_eq 0 n
  obtain ⟨op, tx, nm, kk⟩ := n
  simp only [allV] at ka
  generalize hW : walkN 0 (.mk op tx nm kk) = W at *
  have hca := chain_at _ _ hch
  rw [← hwe] at hca
  have hw0 : W[0]? = some (0, .mk op tx nm kk) := by rw [hwe]; rfl
  have k0 := ks (.mk op tx nm kk) hcnt
  have hpos := cntN_pos (.mk op tx nm kk)
  clear hwe hch
  rw [← hwl] at kc hpos hcnt
  simp only [nV, cellsN] at kp kw kc k0
  have kw := kw
  simp only [cellsN] at ka kw
  refine VCall.go Tryz.func6 rfl ?_
  (repeat' (first | with_reducible refine And.intro ?_ ?_ | ((with_reducible intro hc); (try simp only [zA, zB, zC, zD, zE, zF, zG, zH, zI, zJ, zK, zL, zM, zN, zO, zP, zQ, zR, zS, zT, zU, zV, zW] at hc); (first | (exact absurd rfl hc) | (exact absurd trivial hc) | (exfalso; omega) | skip)) | exact Is.mk rfl rfl | ((conv => whnf); first | with_reducible refine And.intro ?_ ?_ | with_reducible intro hx | exact Is.mk rfl rfl | (with_reducible first | apply Val.via | apply ValH.via) | refine ifB_intro ?_ ?_ | refine xA (by omega) ?_ | ((refine xB ?_); intro kw hk1 hk2) | refine xC (by omega) ?_ | refine xD ?_ | refine xE (by omega) ?_ | refine xF (by omega) ?_ | refine xG ?_ | refine xH ?_ | refine xI (by omega) ?_ | refine xJ (by omega) ?_ | (with_reducible refine stopA ?_) | refine Exists.intro _ (And.intro (by (first | exact vat_nd rfl rfl | exact vat_ds hw0 (mul1 rfl rfl) | exact vat_ns hw0 (mulk rfl rfl) | exact vat_of rfl rfl rfl | rfl)) ?_) | refine GOp.drawn (by rfl) (by rfl) (Nat.le_of_ble_eq_true (by rfl)) (by rfl) | refine GOp.via (by rfl) ?_ | refine GWP.drawY mixed _ (by kernel_rfl) (by rfl) ?_ | (first | (refine GCall.mk ((kl _).mono ?_); rintro _ _ ⟨rfl, rfl⟩) | (refine GCall.mk ((kp _).mono ?_); rintro _ _ ⟨rfl, rfl⟩) | (refine GCall.mk ((kw _).mono ?_); rintro _ _ ⟨rfl, rfl⟩) | (refine GCall.mk ((ka _).mono ?_); rintro _ _ ⟨rfl, rfl⟩) | (refine GCall.mk ((kc _).mono ?_); rintro _ _ ⟨rfl, rfl⟩) | (refine GCall.mk ((k0 _).mono ?_); rintro _ _ ⟨rfl, rfl⟩)) | (with_reducible first | refine stopO ?_ | refine stopE ?_ | refine stopD ?_ | refine stopW ?_ | refine stopG ?_ | refine stopC ?_ | refine stopR ?_))))
  (all_goals (first | omega | contradiction | skip))

  (refine GWP'.mk (GWP.loopB [] (fun (i : Nat) => 1 ≤ i ∧ i ≤ W.length) (fun i => [(8, iV i)]) (fun _ => []) 1 (fun i => W.length - i) 1 ⟨Nat.le_refl _, hpos⟩ ?_); (conv => whnf); refine And.intro ?_ ?_)
  · focus (refine KeptA.of [] rfl rfl (by repeat' (first | exact trivial | refine And.intro rfl ?_)) rfl ?_ ?_; all_goals (repeat' (first | exact trivial | (refine And.intro ?_ ?_) | (refine Exists.intro _ (And.intro rfl ?_)) | (refine RenO.opt ?_) | (refine RenO.toOpt ?_) | (refine RenO.cells ?_) | exact RenO.defs | exact RenL.nil | (refine RenL.cons ?_ ?_) | (first | exact RenV.eq rfl (nameless_sc _) | (with_reducible exact RenV.sc) | exact RenV.gsN | exact RenV.gsZ | exact RenV.gsL (by decide) | exact RenV.slL (by decide) | ((first | refine RenV.gsE (by (first | exact List.Mem.head _ | exact List.Mem.tail _ (List.Mem.head _) | exact List.Mem.tail _ (List.Mem.tail _ (List.Mem.head _)) | (simp; done))) ?_ | refine RenV.eq (scI_eq ?_) (nameless_sc _)); (first | rfl | omega | (simp only [List.length_append, List.length_cons, List.length_nil, List.length_map, List.length_take, List.length_drop] <;> omega) | (simp only <;> omega) | (simp <;> omega))) | exact RenV.undef) | (with_unfolding_all exact (rfl : (_ : VObj) = _)))))
  rintro i ⟨g0, g1⟩
  simp only at g0 g1 ⊢
  by_cases hil : i < W.length
  · obtain ⟨⟨d2, n2⟩, hi⟩ := list_at hil
    obtain ⟨⟨d1, n1⟩, hj⟩ := list_at (l := W) (i := i - 1) (by omega)
    obtain ⟨c1, c2, c3⟩ := hca (i - 1) _ _ hj (by rw [show i - 1 + 1 = i by omega]; exact hi)
    have w2 := hwc _ (List.mem_of_getElem? hi)
    have w1 := hwc _ (List.mem_of_getElem? hj)
    simp only at w1 w2
    have kb := ks n2 (by omega)
    obtain ⟨op1, tx1, nm1, ks1⟩ := n1
    obtain ⟨op2, tx2, nm2, ks2⟩ := n2
    simp only at c1 c2 c3
    by_cases hde : d2 = d1 + 1
    · have hk : ks1[0]? = some (.mk op2 tx2 nm2 ks2) := by rw [← List.head?_eq_getElem?]; exact c3 hde
      have hk1 : 1 ≤ ks1.length := by
        cases ks1 with
        | nil => cases hk
        | cons a b => simp
      simp only [nV, cellsN] at kb
      (repeat' (first | with_reducible refine And.intro ?_ ?_ | ((with_reducible intro hc); (try simp only [zA, zB, zC, zD, zE, zF, zG, zH, zI, zJ, zK, zL, zM, zN, zO, zP, zQ, zR, zS, zT, zU, zV, zW] at hc); (first | (exact absurd rfl hc) | (exact absurd trivial hc) | (exfalso; omega) | skip)) | exact Is.mk rfl rfl | ((conv => whnf); first | with_reducible refine And.intro ?_ ?_ | with_reducible intro hx | exact Is.mk rfl rfl | (with_reducible first | apply Val.via | apply ValH.via) | refine ifB_intro ?_ ?_ | refine xA (by omega) ?_ | ((refine xB ?_); intro kw hk1 hk2) | refine xC (by omega) ?_ | refine xD ?_ | refine xE (by omega) ?_ | refine xF (by omega) ?_ | refine xG ?_ | refine xH ?_ | refine xI (by omega) ?_ | refine xJ (by omega) ?_ | (with_reducible refine stopA ?_) | refine Exists.intro _ (And.intro (by (first | exact vat_nd rfl rfl | exact vat_ds hi (mul1 rfl rfl) | exact vat_ds hj (mul1 rfl (by omega)) | exact vat_ns hi (mulk rfl rfl) | exact vat_kids hj (mulk3 rfl (by omega) rfl) | exact vat_rowsN hk (mulk rfl rfl) | exact vat_of rfl rfl rfl | rfl)) ?_) | refine GOp.drawn (by rfl) (by rfl) (Nat.le_of_ble_eq_true (by rfl)) (by rfl) | refine GOp.via (by rfl) ?_ | refine GWP.drawY mixed _ (by kernel_rfl) (by rfl) ?_ | (refine GCall.mk ((kb _).mono ?_); rintro _ _ ⟨rfl, rfl⟩) | (with_reducible first | refine stopO ?_ | refine stopE ?_ | refine stopD ?_ | refine stopW ?_ | refine stopG ?_ | refine stopC ?_ | refine stopR ?_))))
      (all_goals (first | omega | contradiction | skip))
      all_goals focus (refine Done'.mk ⟨i + 1, ⟨by omega, by omega⟩, ?_, KeptA.of [] rfl rfl (by repeat' (first | exact trivial | refine And.intro rfl ?_)) rfl ?_ ?_⟩; (first | omega | (simp only; omega)); all_goals (repeat' (first | exact trivial | (refine And.intro ?_ ?_) | (refine Exists.intro _ (And.intro rfl ?_)) | (refine RenO.opt ?_) | (refine RenO.toOpt ?_) | (refine RenO.cells ?_) | exact RenO.defs | exact RenL.nil | (refine RenL.cons ?_ ?_) | (first | exact RenV.eq (scI_eq (by omega)) (nameless_sc _) | (with_reducible exact RenV.sc) | exact RenV.gsN | exact RenV.gsZ | exact RenV.gsL (by decide) | exact RenV.slL (by decide) | ((first | refine RenV.gsE (by (first | exact List.Mem.head _ | exact List.Mem.tail _ (List.Mem.head _) | exact List.Mem.tail _ (List.Mem.tail _ (List.Mem.head _)) | (simp; done))) ?_ | refine RenV.eq (scI_eq ?_) (nameless_sc _)); (first | rfl | omega | (simp only [List.length_append, List.length_cons, List.length_nil, List.length_map, List.length_take, List.length_drop] <;> omega) | (simp only <;> omega) | (simp <;> omega))) | exact RenV.undef) | (with_unfolding_all exact (rfl : (_ : VObj) = _)))))
    · (repeat' (first | with_reducible refine And.intro ?_ ?_ | ((with_reducible intro hc); (try simp only [zA, zB, zC, zD, zE, zF, zG, zH, zI, zJ, zK, zL, zM, zN, zO, zP, zQ, zR, zS, zT, zU, zV, zW] at hc); (first | (exact absurd rfl hc) | (exact absurd trivial hc) | (exfalso; omega) | skip)) | exact Is.mk rfl rfl | ((conv => whnf); first | with_reducible refine And.intro ?_ ?_ | with_reducible intro hx | exact Is.mk rfl rfl | (with_reducible first | apply Val.via | apply ValH.via) | refine ifB_intro ?_ ?_ | refine xA (by omega) ?_ | ((refine xB ?_); intro kw hk1 hk2) | refine xC (by omega) ?_ | refine xD ?_ | refine xE (by omega) ?_ | refine xF (by omega) ?_ | refine xG ?_ | refine xH ?_ | refine xI (by omega) ?_ | refine xJ (by omega) ?_ | (with_reducible refine stopA ?_) | refine Exists.intro _ (And.intro (by (first | exact vat_nd rfl rfl | exact vat_ds hi (mul1 rfl rfl) | exact vat_ds hj (mul1 rfl (by omega)) | exact vat_ns hi (mulk rfl rfl) | exact vat_kids hj (mulk3 rfl (by omega) rfl) | exact vat_rowsN hk (mulk rfl rfl) | exact vat_of rfl rfl rfl | rfl)) ?_) | refine GOp.drawn (by rfl) (by rfl) (Nat.le_of_ble_eq_true (by rfl)) (by rfl) | refine GOp.via (by rfl) ?_ | refine GWP.drawY mixed _ (by kernel_rfl) (by rfl) ?_ | fail | (with_reducible first | refine stopO ?_ | refine stopE ?_ | refine stopD ?_ | refine stopW ?_ | refine stopG ?_ | refine stopC ?_ | refine stopR ?_))))
      (all_goals (first | omega | contradiction | skip))
      all_goals focus (refine Done'.mk ⟨i + 1, ⟨by omega, by omega⟩, ?_, KeptA.of [] rfl rfl (by repeat' (first | exact trivial | refine And.intro rfl ?_)) rfl ?_ ?_⟩; (first | omega | (simp only; omega)); all_goals (repeat' (first | exact trivial | (refine And.intro ?_ ?_) | (refine Exists.intro _ (And.intro rfl ?_)) | (refine RenO.opt ?_) | (refine RenO.toOpt ?_) | (refine RenO.cells ?_) | exact RenO.defs | exact RenL.nil | (refine RenL.cons ?_ ?_) | (first | exact RenV.eq (scI_eq (by omega)) (nameless_sc _) | (with_reducible exact RenV.sc) | exact RenV.gsN | exact RenV.gsZ | exact RenV.gsL (by decide) | exact RenV.slL (by decide) | ((first | refine RenV.gsE (by (first | exact List.Mem.head _ | exact List.Mem.tail _ (List.Mem.head _) | exact List.Mem.tail _ (List.Mem.tail _ (List.Mem.head _)) | (simp; done))) ?_ | refine RenV.eq (scI_eq ?_) (nameless_sc _)); (first | rfl | omega | (simp only [List.length_append, List.length_cons, List.length_nil, List.length_map, List.length_take, List.length_drop] <;> omega) | (simp only <;> omega) | (simp <;> omega))) | exact RenV.undef) | (with_unfolding_all exact (rfl : (_ : VObj) = _)))))
  · obtain rfl : i = W.length := by omega
    (repeat' (first | with_reducible refine And.intro ?_ ?_ | ((with_reducible intro hc); (try simp only [zA, zB, zC, zD, zE, zF, zG, zH, zI, zJ, zK, zL, zM, zN, zO, zP, zQ, zR, zS, zT, zU, zV, zW] at hc); (first | (exact absurd rfl hc) | (exact absurd trivial hc) | (exfalso; omega) | skip)) | exact Is.mk rfl rfl | ((conv => whnf); first | with_reducible refine And.intro ?_ ?_ | with_reducible intro hx | exact Is.mk rfl rfl | (with_reducible first | apply Val.via | apply ValH.via) | refine ifB_intro ?_ ?_ | refine xA (by omega) ?_ | ((refine xB ?_); intro kw hk1 hk2) | refine xC (by omega) ?_ | refine xD ?_ | refine xE (by omega) ?_ | refine xF (by omega) ?_ | refine xG ?_ | refine xH ?_ | refine xI (by omega) ?_ | refine xJ (by omega) ?_ | (with_reducible refine stopA ?_) | refine Exists.intro _ (And.intro (by (first | exact vat_nd rfl rfl | exact vat_ds hi (mul1 rfl rfl) | exact vat_ds hj (mul1 rfl (by omega)) | exact vat_ns hi (mulk rfl rfl) | exact vat_kids hj (mulk3 rfl (by omega) rfl) | exact vat_rowsN hk (mulk rfl rfl) | exact vat_of rfl rfl rfl | rfl)) ?_) | refine GOp.drawn (by rfl) (by rfl) (Nat.le_of_ble_eq_true (by rfl)) (by rfl) | refine GOp.via (by rfl) ?_ | refine GWP.drawY mixed _ (by kernel_rfl) (by rfl) ?_ | fail | (with_reducible first | refine stopO ?_ | refine stopE ?_ | refine stopD ?_ | refine stopW ?_ | refine stopG ?_ | refine stopC ?_ | refine stopR ?_))))
    (all_goals (first | omega | contradiction | skip))
    all_goals exact Done'.mk rfl
end Go.Proofs.YtnmjdjldbloefaaGreatDoor

/- What comes in, as values of the walk. Over any program. -/
namespace Go.Proofs.YtnmjdjldbloefaaGreatDoor
open Go Go.ChangeShapes Go.WideShapes Go.RowKit
set_option linter.unusedSimpArgs false
set_option linter.unusedVariables false
/-- All that is there. -/
def Old (w : World) : Nat → Prop := fun k => k < w.heap.size
def noName : Nat → Option (Nat × Nat) := fun _ => none
theorem open_roB {P : Program} {H : Type} {enc : TypeId × Value → H} {W : World} {base : Nat} {t e : TypeId} {v : Value} {d : DataW H} {p : List MemPlace} (ut : P.underlying t = some (.slice e)) (ue : P.underlying e = some (.int .u8)) (hc : P.cellsOf e = 1)
    (hval : Value.okWide P W .any base t v) (h : DataW.Trod enc P W 0 (fun _ => true) true t v d p) : ∃ l : List UInt8, l.length ≤ maxLen ∧ VRel W (Old W) noName (roB l) v := by
  obtain ⟨a1, len, cap, rfl⟩ := okWide_slice ut hval
  obtain ⟨fuel, hf⟩ := h
  rcases open_ints ut ue hc hf with ⟨hcs, hx⟩ | ⟨a, len', cap', zs, hcs, _, hl, hm, hz, hx, hcell, hwz⟩
  · simp [Value.cells] at hcs
    obtain ⟨rfl, rfl, rfl⟩ := hcs
    exact ⟨[], Nat.zero_le _, .ro0⟩
  · simp [Value.cells] at hcs
    obtain ⟨rfl, rfl, rfl⟩ := hcs
    simp only [if_true] at hz
    refine ⟨(zs.take len).map fun n => UInt8.ofNat n.toNat, by simp; omega, ?_⟩
    have hlen : ((zs.take len).map fun n => UInt8.ofNat n.toNat).length = len := by simp; omega
    unfold roB
    rw [hlen]
    by_cases h0 : len = 0
    · subst h0
      exact .ro0
    · obtain ⟨ab, ao, spot⟩ := a
      have hspot : spot = none := by simpa [Addr.add] using World.cell?_spot (hcell 0 (by omega))
      subst hspot
      have hZ : Old W ab := by
        have := hcell 0 (by omega)
        unfold Old
        simp only [Addr.add, World.cell?] at this
        cases hh : W.heap[ab]? with
        | none => simp [hh] at this
        | some o => exact (Array.getElem?_eq_some_iff.1 hh).1
      refine .ro (cs := (zs.take len).map (Value.int .u8)) hZ hl (by simp) (fun i hi => ?_) (fun i u c hu hc => ?_)
      · simp only [List.length_map, List.length_take] at hi
        have := hcell i (by omega)
        rw [Addr.add_lit] at this
        rw [this, List.getElem?_map, List.getElem?_take_of_lt (by omega), List.getD_eq_getElem?_getD, List.getElem?_eq_getElem (show i < zs.length by omega)]
        rfl
      · have hi : i < len := by
          have := (List.getElem?_eq_some_iff.1 hc).1
          simp at this
          omega
        rw [List.getElem?_map, List.getElem?_map, List.getElem?_take_of_lt hi, List.getElem?_eq_getElem (show i < zs.length by omega)] at hu
        rw [List.getElem?_map, List.getElem?_take_of_lt hi, List.getElem?_eq_getElem (show i < zs.length by omega)] at hc
        simp only [Option.map_some, Option.some.injEq] at hu hc
        subst hu hc
        have hb := range_u8 hwz i
        rw [List.getElem?_eq_getElem (show i < zs.length by omega)] at hb
        simp only [Option.getD_some] at hb
        have : ((UInt8.ofNat (zs[i]'(by omega)).toNat).toNat : Int) = zs[i]'(by omega) := by
          simp only [UInt8.toNat_ofNat']
          omega
        unfold bV
        rw [this]
        exact .sc rfl
end Go.Proofs.YtnmjdjldbloefaaGreatDoor

/- PROVED: for every input cordonlaw20.TreeWalks returns true, and its arguments read as before; the listed tables hold what the program's text lays (the card ties them). -/
namespace Go.Proofs.YtnmjdjldbloefaaGreatDoor.lawTreeWalks
open Go.ChangeShapes Go.WideShapes Go.ChangeAt Go.RowKit Go.Joins
open Go.ChangeMaps (open_string shut_string)
set_option linter.unusedSimpArgs false
set_option linter.unusedVariables false

theorem own : ownKnob Tryz.prog.godebug = none := by kernel_rfl
theorem laidOut : laidOutB Tryz.prog = true := by kernel_rfl
theorem u8cells : Tryz.prog.cellsOf 5 = 1 := by kernel_rfl

set_option maxRecDepth 100000 in
theorem contract (H : Type) (enc : TypeId × Value → H) (W : World) (base : Nat) (args : Array Value) (ds gs : List (DataW H)) (before : List MemPlace)
    (hval : ∀ (j : Nat) t v, Tryz.f6.params[j]? = some t → args[j]? = some v → Value.okWide Tryz.prog W .any base t v)
    (hW : DataW.Whole enc Tryz.prog Tryz.f6.params.toList Rows.treeWalksSpec.vars false W args.toList ds gs before) (hL : laidMetH Tryz.prog Rows.treeWalksRow.laid W) :
    Calls Tryz.prog 6 args W fun e W' => ∃ v, e = .returned v ∧ Rows.treeWalksSpec.post enc Tryz.prog Tryz.f6 false true false false W args v W' := by
  have hW' := hW
  obtain ⟨p, q, hA0, hV, rfl, hfz, hnd⟩ := hW
  have hA : DataW.TrodAll enc Tryz.prog W 0 (fun _ => true) true Tryz.f6.params.toList args.toList ds p := hA0
  rw [Tryz.params6] at hA hval
  obtain ⟨v0, vs0, d0, ds0, p0, q0, hargs, rfl, rfl, h0, r0⟩ := trodAll_cons hA
  obtain ⟨rfl, rfl, rfl⟩ := trodAll_nil r0
  obtain rfl : args = #[v0] := by cases args; simp_all
  obtain ⟨rfl, rfl⟩ := trodVars_none hV
  have k0 := h0
  have lt0 : ∀ x ∈ p0, x.block < W.heap.size := by obtain ⟨m, hm⟩ := k0; exact DataW.trod_lt m _ _ _ hm
  have hwalk : Calls Tryz.prog 6 #[v0] W fun e w' => e = .returned (.bool true) ∧ Below W.heap.size W w' := by
    obtain ⟨l0, hl00, hr0⟩ := open_roB Tryz.underlying22 Tryz.underlying5 u8cells (hval 0 22 v0 rfl rfl) h0
    have hl0 : l0.length ≤ 9223372036854775807 := by unfold maxLen at hl00; exact hl00
    exact VCall.law (treeWalks_walk l0) W #[v0] (Pw.cons hr0 Pw.nil) (fun _ _ _ _ _ _ => trivial)
  clear hA0
  refine hwalk.mono fun e W' ⟨he, bel⟩ => ?_
  subst he
  exact ⟨_, rfl, _, _, _, [], _, [], hW', trodAll_mk1 (shut_bool Tryz.underlying4 _), (trodAll_cons_mk (Below.trod laidOut (by kernel_rfl) (of_decide_eq_true (by kernel_rfl)) k0 bel lt0) trodAll_mk0), rfl, bel.frame _, fun h => by cases h⟩

/-- A datum's cells. -/
def cellsOfData : DataW Unit → Array Value
  | .agg l => (l.flatMap fun x => match x with
    | .lit (.int k n) => [Value.int k n]
    | .agg m => m.map fun y => match y with
      | .lit (.int k n) => Value.int k n
      | _ => undef
    | _ => [undef]).toArray
  | _ => #[]
def setRow (d : DataW Unit) : Obj → Obj
  | .cells _ t frozen => .cells (cellsOfData d) t frozen
  | o => o
/-- A world for the witness: the settled one, the tables holding what their initialisers lay. -/
noncomputable def laidWorld (os : Os) : World :=
  { World.holding Tryz.prog os ⟨#[], #[], []⟩ with heap := ((((World.holding Tryz.prog os ⟨#[], #[], []⟩).heap.modify 2 (setRow Rows.laid_math_bits_deBruijn32tab)).modify 3 (setRow Rows.laid_math_bits_deBruijn64tab)).modify 1 (setRow Rows.laid_internal_strconv_uint64pow10)) }
theorem laid_met (os : Os) : laidMet Tryz.prog Rows.treeWalksRow.laid ((laidWorld os).forCall (fun _ _ => 0) ⟨#[], #[.slice none 0 0], []⟩).memory :=
  laidMet_of_run' 8 (by kernel_rfl) (by kernel_rfl)
theorem reads (os : Os) {H : Type} (enc : TypeId × Value → H) : ∃ places, DataW.whole enc Tryz.prog ((laidWorld os).forCall (fun _ _ => 0) ⟨#[], #[.slice none 0 0], []⟩).memory Tryz.f6.params.toList Rows.treeWalksSpec.vars false (#[.slice none 0 0] : Array Value).toList 8 = some ([.nil], [], places) :=
  ⟨[], by kernel_rfl⟩

set_option maxRecDepth 100000 in
theorem lifted (os : Os) (started : os.Started) (H : Type) (enc : TypeId × Value → H) (F : Stop.Interp) :
    ReturnsInHanded {} Tryz.checked os 6 .any ((OpenSpec.ofChange Rows.treeWalksSpec).preRow enc Tryz.prog Tryz.f6 Rows.treeWalksRow.domain false Rows.treeWalksRow.laid) (((OpenSpec.ofChange Rows.treeWalksSpec).at F).post enc Tryz.prog Tryz.f6 false true false false) := by
  obtain ⟨places, hx⟩ := reads os enc
  refine returnsInHanded_of_row (C := Tryz.checked) (s := OpenSpec.ofChange Rows.treeWalksSpec) own started (by kernel_rfl) Tryz.func6
    (witness_row_at (enc := enc) (C := Tryz.checked) false (laidWorld os) #[.slice none 0 0] rfl (by kernel_rfl) (by kernel_rfl) (by kernel_rfl)
      (OpenSpec.preRow_of_cond 8 hx (by kernel_rfl) (fun k hk => by cases hk) (by kernel_rfl) (laid_met os))) ?_
  intro W base args ds gs before hval hW _ _ _ hL _ _
  exact contract H enc W base args ds gs before hval hW hL

theorem said : Rows.TreeWalksSaid :=
  OpenClaim.holds_of_cond 6 Tryz.f6 rfl rfl rfl rfl rfl rfl rfl ⟨rfl, rfl, rfl, rfl, rfl⟩ rfl rfl rfl rfl rfl (by kernel_rfl) Tryz.func6 (by kernel_rfl)
    (of_decide_eq_true (by kernel_rfl)) (by unfold Func.isWrapper; first | (rw [if_pos (by decide +kernel)]; kernel_rfl) | (rw [if_neg (by decide +kernel)]; exact ⟨rfl, rfl⟩))
    (fun os started H enc _ F => by rw [OpenClaim.pre_eq_preRow]; exact lifted os started H enc F)
theorem plain (f : FuncId) (fn : Func) (hf : Tryz.pinned.checked.prog.funcNamed "cordon/cordonlaw20.TreeWalks" = some f) (hfn : Tryz.pinned.checked.prog.funcs[f]? = some fn) :
    true = Tryz.pinned.checked.prog.looks [] ∧ ∀ (j : Nat) t, fn.params[j]? = some t → Tryz.pinned.checked.prog.wantsStandIn t = false := by
  obtain rfl : f = 6 := Option.some.inj ((show Tryz.prog.funcNamed "cordon/cordonlaw20.TreeWalks" = some 6 by kernel_rfl).symm.trans hf) |>.symm
  obtain rfl : fn = Tryz.f6 := (Option.some.inj (Tryz.func6.symm.trans hfn)).symm
  refine ⟨by kernel_rfl, fun j t ht => ?_⟩
  rw [Tryz.params6] at ht
  have : t = 22 := by
    have hm := Array.mem_of_getElem? ht
    simp at hm
    first | omega | (rcases hm with rfl | rfl <;> simp)
  rcases this with rfl
  · exact (show Tryz.prog.wantsStandIn 22 = false by kernel_rfl)
/-- The card. -/
theorem card : Rows.TreeWalksCardSaid :=
  Claim7.holds_tied_plain_at .later [] _ _ _ _ said (fun _ h => by cases h) (by kernel_rfl) (fun _ h => by cases h) treeWalks_row_tie rfl ⟨rfl, rfl⟩ (by kernel_rfl) rfl plain (by kernel_rfl)
#print axioms card
end Go.Proofs.YtnmjdjldbloefaaGreatDoor.lawTreeWalks

