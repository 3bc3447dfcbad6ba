import Derived.Test.YtnmjdjldbloefaaGreatDoorH1
import Derived.Test.YtnmjdjldbloefaaGreatDoorH7
/- A tree's walk in plain words: how many nodes, which one behind which. -/
namespace Go.Proofs.YtnmjdjldbloefaaGreatDoor
set_option linter.unusedSimpArgs false
set_option linter.unusedVariables false
open Go Go.RowKit
theorem nameless_rp {vs : List VV} {o : Nat} (h : ∀ v ∈ vs, Nameless v) : Nameless (.rp vs o) := fun w Z ρ ρ' y hr => by
  cases hr with
  | rp hZ hlen hcell hrel => exact .rp hZ hlen hcell fun i u c hu hc => h u (List.mem_of_getElem? hu) _ _ _ _ _ (hrel i u c hu hc)
theorem nameless_fn {f : Fn} {vs us : List VV} (h : ∀ v ∈ vs, Nameless v) (g : ∀ v ∈ us, Nameless v) : Nameless (.fn f vs us) := fun w Z ρ ρ' y hr => by
  cases hr with
  | fn h1 r1 h2 r2 => exact .fn h1 (fun i u c hu hc => h u (List.mem_of_getElem? hu) _ _ _ _ _ (r1 i u c hu hc)) h2 (fun i u c hu hc => g u (List.mem_of_getElem? hu) _ _ _ _ _ (r2 i u c hu hc))
mutual
def cntN : Nd → Nat
  | .mk _ _ _ ks => 1 + cntL ks
def cntL : List Nd → Nat
  | [] => 0
  | k :: r => cntN k + cntL r
end
mutual
def walkN : Nat → Nd → List (Nat × Nd)
  | d, .mk o t m ks => (d, .mk o t m ks) :: walkL (d + 1) ks
def walkL : Nat → List Nd → List (Nat × Nd)
  | _, [] => []
  | d, k :: r => walkN d k ++ walkL d r
end
mutual
theorem walkN_len : ∀ (d : Nat) (n : Nd), (walkN d n).length = cntN n
  | d, .mk o t m ks => by rw [walkN, cntN, List.length_cons, walkL_len (d + 1) ks]; omega
theorem walkL_len : ∀ (d : Nat) (l : List Nd), (walkL d l).length = cntL l
  | d, [] => by rw [walkL, cntL]; rfl
  | d, k :: r => by rw [walkL, cntL, List.length_append, walkN_len d k, walkL_len d r]
end
mutual
theorem walkN_ge : ∀ (d : Nat) (n : Nd), ∀ x ∈ walkN d n, d ≤ x.1
  | d, .mk o t m ks, x, hx => by
    rw [walkN] at hx
    rcases List.mem_cons.1 hx with rfl | hx
    · exact Nat.le_refl _
    · exact Nat.le_of_succ_le (walkL_ge (d + 1) ks x hx)
theorem walkL_ge : ∀ (d : Nat) (l : List Nd), ∀ x ∈ walkL d l, d ≤ x.1
  | d, [], x, hx => by rw [walkL] at hx; cases hx
  | d, k :: r, x, hx => by
    rw [walkL] at hx
    rcases List.mem_append.1 hx with hx | hx
    · exact walkN_ge d k x hx
    · exact walkL_ge d r x hx
end
theorem walkN_eq (d : Nat) : ∀ n : Nd, walkN d n = (d, n) :: walkL (d + 1) n.kids
  | .mk o t m ks => by rw [walkN]; rfl
/-- What the law asks of each node and the one ahead of it. -/
def chain : Nat × Nd → List (Nat × Nd) → Prop
  | _, [] => True
  | p, q :: r => 1 ≤ q.1 ∧ q.1 ≤ p.1 + 1 ∧ (q.1 = p.1 + 1 → p.2.kids.head? = some q.2) ∧ chain q r
theorem chain_append {q : Nat × Nd} {r : List (Nat × Nd)} (hq : 1 ≤ q.1) (hr : chain q r) : ∀ (l : List (Nat × Nd)) (p : Nat × Nd), chain p l → (∀ x ∈ p :: l, q.1 ≤ x.1) → chain p (l ++ q :: r)
  | [], p, _, hb => by
    have := hb p (List.mem_cons_self ..)
    exact ⟨hq, by omega, fun h => by omega, hr⟩
  | a :: l, p, hc, hb => ⟨hc.1, hc.2.1, hc.2.2.1, chain_append hq hr l a hc.2.2.2 fun x hx => hb x (List.mem_cons_of_mem _ hx)⟩
mutual
theorem chainN : ∀ (n : Nd) (d : Nat), chain (d, n) (walkL (d + 1) n.kids)
  | .mk o t m [], d => by show chain _ (walkL (d + 1) []); rw [walkL]; trivial
  | .mk o t m (k :: r), d => by
    show chain _ (walkL (d + 1) (k :: r))
    rw [walkL, walkN_eq]
    exact ⟨Nat.succ_le_succ (Nat.zero_le _), Nat.le_refl _, fun _ => rfl, chainL k r (d + 1) (Nat.succ_le_succ (Nat.zero_le _))⟩
termination_by n => SizeOf.sizeOf n
theorem chainL : ∀ (k : Nd) (r : List Nd) (d : Nat), 1 ≤ d → chain (d, k) (walkL (d + 1) k.kids ++ walkL d r)
  | k, [], d, hd => by rw [walkL, List.append_nil]; exact chainN k d
  | k, k2 :: r, d, hd => by
    rw [walkL, walkN_eq, List.cons_append]
    exact chain_append hd (chainL k2 r d hd) _ _ (chainN k d) fun x hx => by
      rcases List.mem_cons.1 hx with rfl | hx
      · exact Nat.le_refl _
      · exact Nat.le_of_succ_le (walkL_ge (d + 1) _ x hx)
termination_by k r => SizeOf.sizeOf k + SizeOf.sizeOf r + 1
end
theorem chain_at : ∀ (l : List (Nat × Nd)) (p : Nat × Nd), chain p l → ∀ (i : Nat) (a b : Nat × Nd), (p :: l)[i]? = some a → (p :: l)[i + 1]? = some b → 1 ≤ b.1 ∧ b.1 ≤ a.1 + 1 ∧ (b.1 = a.1 + 1 → a.2.kids.head? = some b.2)
  | [], p, _, i, a, b, _, h2 => by simp at h2
  | q :: l, p, hc, 0, a, b, h1, h2 => by
    simp at h1 h2
    subst h1 h2
    exact ⟨hc.1, hc.2.1, hc.2.2.1⟩
  | q :: l, p, hc, i + 1, a, b, h1, h2 => chain_at l q hc.2.2.2 i a b (by simpa using h1) (by simpa using h2)
theorem cntN_pos : ∀ n, 1 ≤ cntN n
  | .mk o t m ks => by rw [cntN]; omega
theorem dropN_at {α : Type} {l : List α} {i : Nat} {x : α} (h : l[i]? = some x) : l.drop i = x :: l.drop (i + 1) := by
  obtain ⟨hi, e⟩ := List.getElem?_eq_some_iff.1 h
  rw [List.drop_eq_getElem_cons hi, e]
theorem len_le_cnt : ∀ l : List Nd, l.length ≤ cntL l
  | [] => Nat.zero_le _
  | k :: r => by
    have h1 := cntN_pos k
    have h2 := len_le_cnt r
    rw [cntL, List.length_cons]
    omega
end Go.Proofs.YtnmjdjldbloefaaGreatDoor

/- The law's count, at any tree. -/
namespace Go.Proofs.YtnmjdjldbloefaaGreatDoor
open Go Go.RowKit
set_option linter.unusedSimpArgs false
set_option linter.unusedVariables false
set_option maxRecDepth 100000
set_option maxHeartbeats 8000000
theorem count_call : ∀ (f : Nat) (n : Nd), cntN n ≤ f → f ≤ 1000000000 → ∀ H, VCall Tryz.prog 16 [nV n] H (fun v K => v = iV (cntN n) ∧ K = H)
  | 0, .mk o t m ks, h, _, H => by rw [cntN] at h; omega
  | f + 1, .mk o t m ks, h, hf, H => by
    have hc : cntN (.mk o t m ks) = 1 + cntL ks := by rw [cntN]
    rw [hc] at h ⊢
    have ih := count_call f
    have hlen := len_le_cnt ks
    have hk : True := trivial
    refine VCall.pure (by simp [nameless_nV]) (nameless_sc _) ?_
    rw [nV, cellsN]
    refine VCall.go Tryz.func16 rfl ?_
    (repeat' (first | with_reducible refine And.intro ?_ ?_ | ((with_reducible intro hc); (try simp only [zA, zB, zC, zD, zE, zF, zG, zH, zI, zJ, zK, zL, zM, zN, zO, zP, zQ, zR, zS, zT, zU, zV, zW] at hc); (first | (exact absurd rfl hc) | (exact absurd trivial hc) | (exfalso; omega) | skip)) | exact Is.mk rfl rfl | ((conv => whnf); first | with_reducible refine And.intro ?_ ?_ | with_reducible intro hx | exact Is.mk rfl rfl | (with_reducible first | apply Val.via | apply ValH.via) | refine ifB_intro ?_ ?_ | refine xA (by omega) ?_ | ((refine xB ?_); intro kw hk1 hk2) | refine xC (by omega) ?_ | refine xD ?_ | refine xE (by omega) ?_ | refine xF (by omega) ?_ | refine xG ?_ | refine xH ?_ | refine xI (by omega) ?_ | refine xJ (by omega) ?_ | (with_reducible refine stopA ?_) | refine Exists.intro _ (And.intro (by (first | exact vat_nd rfl rfl | exact vat_rowsN hk rfl | exact vat_of rfl rfl rfl | rfl)) ?_) | refine GOp.drawn (by rfl) (by rfl) (Nat.le_of_ble_eq_true (by rfl)) (by rfl) | refine GOp.via (by rfl) ?_ | refine GWP.drawY mixed _ (by kernel_rfl) (by rfl) ?_ | fail | (with_reducible first | refine stopO ?_ | refine stopE ?_ | refine stopD ?_ | refine stopW ?_ | refine stopG ?_ | refine stopC ?_ | refine stopR ?_))))
    (all_goals (first | omega | contradiction | skip))
    (refine GWP'.mk (GWP.loopB [] (fun (a : Nat × Nat) => a.1 ≤ ks.length ∧ 1 ≤ a.2 ∧ a.2 + cntL (ks.drop a.1) = 1 + cntL ks) (fun a => [(3, iV a.2), (9, iV a.1)]) (fun _ => []) 1 (fun a => ks.length - a.1) (0, 1) ⟨Nat.zero_le _, Nat.le_refl _, by simp⟩ ?_); (conv => whnf); refine And.intro ?_ ?_)
    · focus (refine KeptA.of [] rfl rfl (by repeat' (first | exact trivial | refine And.intro rfl ?_)) rfl ?_ ?_; all_goals (repeat' (first | exact trivial | (refine And.intro ?_ ?_) | (refine Exists.intro _ (And.intro rfl ?_)) | (refine RenO.opt ?_) | (refine RenO.toOpt ?_) | (refine RenO.cells ?_) | exact RenO.defs | exact RenL.nil | (refine RenL.cons ?_ ?_) | (first | exact RenV.eq rfl (nameless_sc _) | (with_reducible exact RenV.sc) | exact RenV.gsN | exact RenV.gsZ | exact RenV.gsL (by decide) | exact RenV.slL (by decide) | ((first | refine RenV.gsE (by (first | exact List.Mem.head _ | exact List.Mem.tail _ (List.Mem.head _) | exact List.Mem.tail _ (List.Mem.tail _ (List.Mem.head _)) | (simp; done))) ?_ | refine RenV.eq (scI_eq ?_) (nameless_sc _)); (first | rfl | omega | (simp only [List.length_append, List.length_cons, List.length_nil, List.length_map, List.length_take, List.length_drop] <;> omega) | (simp only <;> omega) | (simp <;> omega))) | exact RenV.undef) | (with_unfolding_all exact (rfl : (_ : VObj) = _)))))
    rintro ⟨i, c⟩ ⟨g1, g0, g2⟩
    simp only at g1 g0 g2 ⊢
    by_cases hil : i < ks.length
    · obtain ⟨kd, hk⟩ := list_at hil
      rw [dropN_at hk, cntL] at g2
      have kc := fun H => ih kd (by omega) (by omega) H
      generalize hq : cntN kd = q at *
      obtain ⟨op, tx, nm, kk⟩ := kd
      simp only [nV, cellsN] at kc
      (repeat' (first | with_reducible refine And.intro ?_ ?_ | ((with_reducible intro hc); (try simp only [zA, zB, zC, zD, zE, zF, zG, zH, zI, zJ, zK, zL, zM, zN, zO, zP, zQ, zR, zS, zT, zU, zV, zW] at hc); (first | (exact absurd rfl hc) | (exact absurd trivial hc) | (exfalso; omega) | skip)) | exact Is.mk rfl rfl | ((conv => whnf); first | with_reducible refine And.intro ?_ ?_ | with_reducible intro hx | exact Is.mk rfl rfl | (with_reducible first | apply Val.via | apply ValH.via) | refine ifB_intro ?_ ?_ | refine xA (by omega) ?_ | ((refine xB ?_); intro kw hk1 hk2) | refine xC (by omega) ?_ | refine xD ?_ | refine xE (by omega) ?_ | refine xF (by omega) ?_ | refine xG ?_ | refine xH ?_ | refine xI (by omega) ?_ | refine xJ (by omega) ?_ | (with_reducible refine stopA ?_) | refine Exists.intro _ (And.intro (by (first | exact vat_nd rfl rfl | exact vat_rowsN hk rfl | exact vat_of rfl rfl rfl | rfl)) ?_) | refine GOp.drawn (by rfl) (by rfl) (Nat.le_of_ble_eq_true (by rfl)) (by rfl) | refine GOp.via (by rfl) ?_ | refine GWP.drawY mixed _ (by kernel_rfl) (by rfl) ?_ | (refine GCall.mk ((kc _).mono ?_); rintro _ _ ⟨rfl, rfl⟩) | (with_reducible first | refine stopO ?_ | refine stopE ?_ | refine stopD ?_ | refine stopW ?_ | refine stopG ?_ | refine stopC ?_ | refine stopR ?_))))
      (all_goals (first | omega | contradiction | skip))
      focus (refine Done'.mk ⟨(i + 1, c + q), ⟨by simp only; omega, by simp only; omega, by simp only; omega⟩, ?_, KeptA.of [] rfl rfl (by repeat' (first | exact trivial | refine And.intro rfl ?_)) rfl ?_ ?_⟩; (first | omega | (simp only; omega)); all_goals (repeat' (first | exact trivial | (refine And.intro ?_ ?_) | (refine Exists.intro _ (And.intro rfl ?_)) | (refine RenO.opt ?_) | (refine RenO.toOpt ?_) | (refine RenO.cells ?_) | exact RenO.defs | exact RenL.nil | (refine RenL.cons ?_ ?_) | (first | exact RenV.eq (scI_eq (by omega)) (nameless_sc _) | (with_reducible exact RenV.sc) | exact RenV.gsN | exact RenV.gsZ | exact RenV.gsL (by decide) | exact RenV.slL (by decide) | ((first | refine RenV.gsE (by (first | exact List.Mem.head _ | exact List.Mem.tail _ (List.Mem.head _) | exact List.Mem.tail _ (List.Mem.tail _ (List.Mem.head _)) | (simp; done))) ?_ | refine RenV.eq (scI_eq ?_) (nameless_sc _)); (first | rfl | omega | (simp only [List.length_append, List.length_cons, List.length_nil, List.length_map, List.length_take, List.length_drop] <;> omega) | (simp only <;> omega) | (simp <;> omega))) | exact RenV.undef) | (with_unfolding_all exact (rfl : (_ : VObj) = _)))))
    · obtain rfl : i = ks.length := by omega
      rw [List.drop_length, cntL] at g2
      obtain rfl : c = 1 + cntL ks := by omega
      (repeat' (first | with_reducible refine And.intro ?_ ?_ | ((with_reducible intro hc); (try simp only [zA, zB, zC, zD, zE, zF, zG, zH, zI, zJ, zK, zL, zM, zN, zO, zP, zQ, zR, zS, zT, zU, zV, zW] at hc); (first | (exact absurd rfl hc) | (exact absurd trivial hc) | (exfalso; omega) | skip)) | exact Is.mk rfl rfl | ((conv => whnf); first | with_reducible refine And.intro ?_ ?_ | with_reducible intro hx | exact Is.mk rfl rfl | (with_reducible first | apply Val.via | apply ValH.via) | refine ifB_intro ?_ ?_ | refine xA (by omega) ?_ | ((refine xB ?_); intro kw hk1 hk2) | refine xC (by omega) ?_ | refine xD ?_ | refine xE (by omega) ?_ | refine xF (by omega) ?_ | refine xG ?_ | refine xH ?_ | refine xI (by omega) ?_ | refine xJ (by omega) ?_ | (with_reducible refine stopA ?_) | refine Exists.intro _ (And.intro (by (first | exact vat_nd rfl rfl | exact vat_rowsN hk rfl | exact vat_of rfl rfl rfl | rfl)) ?_) | refine GOp.drawn (by rfl) (by rfl) (Nat.le_of_ble_eq_true (by rfl)) (by rfl) | refine GOp.via (by rfl) ?_ | refine GWP.drawY mixed _ (by kernel_rfl) (by rfl) ?_ | fail | (with_reducible first | refine stopO ?_ | refine stopE ?_ | refine stopD ?_ | refine stopW ?_ | refine stopG ?_ | refine stopC ?_ | refine stopR ?_))))
      (all_goals (first | omega | contradiction | skip))
      all_goals exact Done'.mk rfl
end Go.Proofs.YtnmjdjldbloefaaGreatDoor

/- A tree is the same as itself. -/
namespace Go.Proofs.YtnmjdjldbloefaaGreatDoor
open Go Go.RowKit
set_option linter.unusedSimpArgs false
set_option linter.unusedVariables false
set_option maxRecDepth 100000
set_option maxHeartbeats 8000000
theorem rowsN_nl (ks : List Nd) : Nameless (.ro ks.length (rowsN ks)) := nameless_ro (rowsN_nameless ks)
theorem eqF_call (ks : List Nd) (hn : ks.length ≤ 1000000000) (ih : ∀ k ∈ ks, ∀ H, VCall Tryz.prog 13 [nV k, nV k] H (fun v K => v = .sc (.bool true) ∧ K = H)) (H : Heap) : VCall Tryz.prog 32 [.ro ks.length (rowsN ks), .ro ks.length (rowsN ks), .fn (.func 13) [] []] H (fun v K => v = .sc (.bool true) ∧ K = H) := by
  have hk : True := trivial
  refine VCall.pure ?_ (nameless_sc _) ?_
  · intro v hv
    simp at hv
    rcases hv with rfl | rfl
    · exact rowsN_nl ks
    · exact nameless_fn (by simp) (by simp)
  refine VCall.go Tryz.func32 rfl ?_
  (repeat' (first | with_reducible refine And.intro ?_ ?_ | ((with_reducible intro hc); (try simp only [zA, zB, zC, zD, zE, zF, zG, zH, zI, zJ, zK, zL, zM, zN, zO, zP, zQ, zR, zS, zT, zU, zV, zW] at hc); (first | (exact absurd rfl hc) | (exact absurd trivial hc) | (exfalso; omega) | skip)) | exact Is.mk rfl rfl | ((conv => whnf); first | with_reducible refine And.intro ?_ ?_ | with_reducible intro hx | exact Is.mk rfl rfl | (with_reducible first | apply Val.via | apply ValH.via) | refine ifB_intro ?_ ?_ | refine xA (by omega) ?_ | ((refine xB ?_); intro kw hk1 hk2) | refine xC (by omega) ?_ | refine xD ?_ | refine xE (by omega) ?_ | refine xF (by omega) ?_ | refine xG ?_ | refine xH ?_ | refine xI (by omega) ?_ | refine xJ (by omega) ?_ | (with_reducible refine stopA ?_) | refine Exists.intro _ (And.intro (by (first | exact vat_nd rfl rfl | exact vat_rowsN hk rfl | exact vat_of rfl rfl rfl | rfl)) ?_) | refine GOp.drawn (by rfl) (by rfl) (Nat.le_of_ble_eq_true (by rfl)) (by rfl) | refine GOp.via (by rfl) ?_ | refine GWP.drawY mixed _ (by kernel_rfl) (by rfl) ?_ | fail | (with_reducible first | refine stopO ?_ | refine stopE ?_ | refine stopD ?_ | refine stopW ?_ | refine stopG ?_ | refine stopC ?_ | refine stopR ?_))))
  (all_goals (first | omega | contradiction | skip))
  (refine GWP'.mk (GWP.loopB [] (fun (i : Nat) => i ≤ ks.length) (fun i => [(17, iV i)]) (fun _ => []) 0 (fun i => ks.length - i) 0 (Nat.zero_le _) ?_); (conv => whnf); refine And.intro ?_ ?_)
  · focus (refine KeptA.of [] rfl rfl (by repeat' (first | exact trivial | refine And.intro rfl ?_)) rfl ?_ ?_; all_goals (repeat' (first | exact trivial | (refine And.intro ?_ ?_) | (refine Exists.intro _ (And.intro rfl ?_)) | (refine RenO.opt ?_) | (refine RenO.toOpt ?_) | (refine RenO.cells ?_) | exact RenO.defs | exact RenL.nil | (refine RenL.cons ?_ ?_) | (first | exact RenV.eq rfl (nameless_sc _) | (with_reducible exact RenV.sc) | exact RenV.gsN | exact RenV.gsZ | exact RenV.gsL (by decide) | exact RenV.slL (by decide) | ((first | refine RenV.gsE (by (first | exact List.Mem.head _ | exact List.Mem.tail _ (List.Mem.head _) | exact List.Mem.tail _ (List.Mem.tail _ (List.Mem.head _)) | (simp; done))) ?_ | refine RenV.eq (scI_eq ?_) (nameless_sc _)); (first | rfl | omega | (simp only [List.length_append, List.length_cons, List.length_nil, List.length_map, List.length_take, List.length_drop] <;> omega) | (simp only <;> omega) | (simp <;> omega))) | exact RenV.undef) | (with_unfolding_all exact (rfl : (_ : VObj) = _)))))
  rintro i g1
  simp only at g1 ⊢
  by_cases hil : i < ks.length
  · obtain ⟨kd, hk⟩ := list_at hil
    have kc := fun H => ih kd (List.mem_of_getElem? hk) H
    obtain ⟨op, tx, nm, kk⟩ := kd
    simp only [nV, cellsN] at kc
    (repeat' (first | with_reducible refine And.intro ?_ ?_ | ((with_reducible intro hc); (try simp only [zA, zB, zC, zD, zE, zF, zG, zH, zI, zJ, zK, zL, zM, zN, zO, zP, zQ, zR, zS, zT, zU, zV, zW] at hc); (first | (exact absurd rfl hc) | (exact absurd trivial hc) | (exfalso; omega) | skip)) | exact Is.mk rfl rfl | ((conv => whnf); first | with_reducible refine And.intro ?_ ?_ | with_reducible intro hx | exact Is.mk rfl rfl | (with_reducible first | apply Val.via | apply ValH.via) | refine ifB_intro ?_ ?_ | refine xA (by omega) ?_ | ((refine xB ?_); intro kw hk1 hk2) | refine xC (by omega) ?_ | refine xD ?_ | refine xE (by omega) ?_ | refine xF (by omega) ?_ | refine xG ?_ | refine xH ?_ | refine xI (by omega) ?_ | refine xJ (by omega) ?_ | (with_reducible refine stopA ?_) | refine Exists.intro _ (And.intro (by (first | exact vat_nd rfl rfl | exact vat_rowsN hk rfl | exact vat_of rfl rfl rfl | rfl)) ?_) | refine GOp.drawn (by rfl) (by rfl) (Nat.le_of_ble_eq_true (by rfl)) (by rfl) | refine GOp.via (by rfl) ?_ | refine GWP.drawY mixed _ (by kernel_rfl) (by rfl) ?_ | (refine GCall.mk ((kc _).mono ?_); rintro _ _ ⟨rfl, rfl⟩) | (with_reducible first | refine stopO ?_ | refine stopE ?_ | refine stopD ?_ | refine stopW ?_ | refine stopG ?_ | refine stopC ?_ | refine stopR ?_))))
    (all_goals (first | omega | contradiction | skip))
    focus (refine Done'.mk ⟨i + 1, (by omega), ?_, KeptA.of [] rfl rfl (by repeat' (first | exact trivial | refine And.intro rfl ?_)) rfl ?_ ?_⟩; (first | omega | (simp only; omega)); all_goals (repeat' (first | exact trivial | (refine And.intro ?_ ?_) | (refine Exists.intro _ (And.intro rfl ?_)) | (refine RenO.opt ?_) | (refine RenO.toOpt ?_) | (refine RenO.cells ?_) | exact RenO.defs | exact RenL.nil | (refine RenL.cons ?_ ?_) | (first | exact RenV.eq (scI_eq (by omega)) (nameless_sc _) | (with_reducible exact RenV.sc) | exact RenV.gsN | exact RenV.gsZ | exact RenV.gsL (by decide) | exact RenV.slL (by decide) | ((first | refine RenV.gsE (by (first | exact List.Mem.head _ | exact List.Mem.tail _ (List.Mem.head _) | exact List.Mem.tail _ (List.Mem.tail _ (List.Mem.head _)) | (simp; done))) ?_ | refine RenV.eq (scI_eq ?_) (nameless_sc _)); (first | rfl | omega | (simp only [List.length_append, List.length_cons, List.length_nil, List.length_map, List.length_take, List.length_drop] <;> omega) | (simp only <;> omega) | (simp <;> omega))) | exact RenV.undef) | (with_unfolding_all exact (rfl : (_ : VObj) = _)))))
  · obtain rfl : i = ks.length := by omega
    (repeat' (first | with_reducible refine And.intro ?_ ?_ | ((with_reducible intro hc); (try simp only [zA, zB, zC, zD, zE, zF, zG, zH, zI, zJ, zK, zL, zM, zN, zO, zP, zQ, zR, zS, zT, zU, zV, zW] at hc); (first | (exact absurd rfl hc) | (exact absurd trivial hc) | (exfalso; omega) | skip)) | exact Is.mk rfl rfl | ((conv => whnf); first | with_reducible refine And.intro ?_ ?_ | with_reducible intro hx | exact Is.mk rfl rfl | (with_reducible first | apply Val.via | apply ValH.via) | refine ifB_intro ?_ ?_ | refine xA (by omega) ?_ | ((refine xB ?_); intro kw hk1 hk2) | refine xC (by omega) ?_ | refine xD ?_ | refine xE (by omega) ?_ | refine xF (by omega) ?_ | refine xG ?_ | refine xH ?_ | refine xI (by omega) ?_ | refine xJ (by omega) ?_ | (with_reducible refine stopA ?_) | refine Exists.intro _ (And.intro (by (first | exact vat_nd rfl rfl | exact vat_rowsN hk rfl | exact vat_of rfl rfl rfl | rfl)) ?_) | refine GOp.drawn (by rfl) (by rfl) (Nat.le_of_ble_eq_true (by rfl)) (by rfl) | refine GOp.via (by rfl) ?_ | refine GWP.drawY mixed _ (by kernel_rfl) (by rfl) ?_ | fail | (with_reducible first | refine stopO ?_ | refine stopE ?_ | refine stopD ?_ | refine stopW ?_ | refine stopG ?_ | refine stopC ?_ | refine stopR ?_))))
    (all_goals (first | omega | contradiction | skip))
    all_goals exact Done'.mk rfl
theorem cnt_mem : ∀ {l : List Nd} {k : Nd}, k ∈ l → cntN k ≤ cntL l
  | a :: r, k, h => by
    rw [cntL]
    rcases List.mem_cons.1 h with rfl | h
    · omega
    · have := cnt_mem h; omega
theorem same_call : ∀ (f : Nat) (n : Nd), cntN n ≤ f → f ≤ 1000000000 → ∀ H, VCall Tryz.prog 13 [nV n, nV n] H (fun v K => v = .sc (.bool true) ∧ K = H)
  | 0, .mk o t m ks, h, _, H => by rw [cntN] at h; omega
  | f + 1, .mk o t m ks, h, hf, H => by
    rw [cntN] at h
    have hlen := len_le_cnt ks
    have ke := fun H => eqF_call ks (by omega) (fun k hk => same_call f k (by have := cnt_mem hk; omega) (by omega)) H
    have hk : True := trivial
    refine VCall.pure (by simp [nameless_nV]) (nameless_sc _) ?_
    rw [nV, cellsN]
    refine VCall.go Tryz.func13 rfl ?_
    (repeat' (first | with_reducible refine And.intro ?_ ?_ | ((with_reducible intro hc); (try simp only [zA, zB, zC, zD, zE, zF, zG, zH, zI, zJ, zK, zL, zM, zN, zO, zP, zQ, zR, zS, zT, zU, zV, zW] at hc); (first | (exact absurd rfl hc) | (exact absurd trivial hc) | (exfalso; omega) | skip)) | exact Is.mk rfl rfl | ((conv => whnf); first | with_reducible refine And.intro ?_ ?_ | with_reducible intro hx | exact Is.mk rfl rfl | (with_reducible first | apply Val.via | apply ValH.via) | refine ifB_intro ?_ ?_ | refine xA (by omega) ?_ | ((refine xB ?_); intro kw hk1 hk2) | refine xC (by omega) ?_ | refine xD ?_ | refine xE (by omega) ?_ | refine xF (by omega) ?_ | refine xG ?_ | refine xH ?_ | refine xI (by omega) ?_ | refine xJ (by omega) ?_ | (with_reducible refine stopA ?_) | refine Exists.intro _ (And.intro (by (first | exact vat_nd rfl rfl | exact vat_rowsN hk rfl | exact vat_of rfl rfl rfl | rfl)) ?_) | refine GOp.drawn (by rfl) (by rfl) (Nat.le_of_ble_eq_true (by rfl)) (by rfl) | refine GOp.via (by rfl) ?_ | refine GWP.drawY mixed _ (by kernel_rfl) (by rfl) ?_ | (refine GCall.mk ((ke _).mono ?_); rintro _ _ ⟨rfl, rfl⟩) | (with_reducible first | refine stopO ?_ | refine stopE ?_ | refine stopD ?_ | refine stopW ?_ | refine stopG ?_ | refine stopC ?_ | refine stopR ?_))))
    (all_goals (first | omega | contradiction | skip))
    all_goals exact Done'.mk rfl
end Go.Proofs.YtnmjdjldbloefaaGreatDoor

/- A tree's walk told into two slices: the walk's own function, called with a loop's yield. -/
namespace Go.Proofs.YtnmjdjldbloefaaGreatDoor
open Go Go.RowKit
set_option linter.unusedSimpArgs false
set_option linter.unusedVariables false
set_option maxRecDepth 100000
set_option maxHeartbeats 8000000
def dsR (a : List (Nat × Nd)) : List VV := a.map fun p => iV p.1
def nsR (a : List (Nat × Nd)) : List VV := rowsN (a.map (·.2))
theorem dsR_nl (a : List (Nat × Nd)) : ∀ v ∈ dsR a, Nameless v := nameless_map (fun p => nameless_sc _) a
theorem nsR_nl (a : List (Nat × Nd)) : ∀ v ∈ nsR a, Nameless v := rowsN_nameless _
theorem dsR_len (a : List (Nat × Nd)) : (dsR a).length = a.length * 1 := by unfold dsR; rw [List.length_map, Nat.mul_one]
theorem nsR_len (a : List (Nat × Nd)) : (nsR a).length = a.length * 4 := by unfold nsR; rw [rowsN_len, List.length_map]
theorem dsR_snoc (a : List (Nat × Nd)) (p : Nat × Nd) : dsR (a ++ [p]) = dsR a ++ [iV p.1] := by unfold dsR; simp
theorem nsR_snoc (a : List (Nat × Nd)) (p : Nat × Nd) : nsR (a ++ [p]) = nsR a ++ cellsN p.2 := by unfold nsR; rw [List.map_append, List.map_cons, List.map_nil, rowsN_snoc]
theorem nsR_nil : nsR [] = [] := by unfold nsR; rw [List.map_nil, rowsN]
/-- What a walk's yield writes to. -/
def wkO (ps : List Tmp) (asg bd : Code) (b1 b2 : Nat) (a : List (Nat × Nd)) : List (Nat × VObj) :=
  [(0, .cells true [.gs b1 a.length 1]), (1, .cells true [.gs b2 a.length 4]), (2, .defs), (3, .loop [.junk, .junk, .junk, .junk, .ptr 0 0, .ptr 1 0, .junk, .junk, .junk, .junk, .junk, .junk, .junk, .junk, .junk, .junk, .junk, .junk, .junk, .junk, .junk] ps asg bd .ready none 2), (b1, .opt (dsR a)), (b2, .opt (nsR a))]
/-- A walk, told at its own names. -/
def WkC (ps : List Tmp) (asg bd : Code) (n : Nd) (d : Nat) (a : List (Nat × Nd)) : Prop :=
  VCall Tryz.prog 34 [nV n, iV d, .yl 3] ⟨wkO ps asg bd 4 5 a, 6⟩ (fun v K => v = booV true ∧ K = ⟨wkO ps asg bd 10 11 (a ++ walkN d n), 12⟩)
theorem WkC.of {ps : List Tmp} {asg bd : Code} {n : Nd} {d : Nat} {a : List (Nat × Nd)} (h : VCall Tryz.prog 34 [nV n, iV d, .yl 3] ⟨wkO ps asg bd 4 5 a, 6⟩ (fun v K => v = booV true ∧ Gets K (wkO ps asg bd 10 11 (a ++ walkN d n)) ∧ Nat.ble K.next 12 = true)) : WkC ps asg bd n d a :=
  VCall.post h fun v K q => ⟨v, ⟨wkO ps asg bd 10 11 (a ++ walkN d n), 12⟩, ⟨q.1, rfl⟩, fun _ _ _ _ h => h, Nat.le_of_ble_eq_true q.2.2, fun b x hx => (q.2.1.get hx).1⟩
theorem memB_live {D : List Nat} {n b : Nat} {O : List (Nat × VObj)} (h : ∀ b x, hget O b = some x → b < n) (hb : n ≤ b) : memN b ((restO D O).map (·.1)) = false := by
  cases hm : memN b ((restO D O).map (·.1)) with
  | false => rfl
  | true =>
    have hin := memN_iff.1 hm
    have key : ∀ (l : List (Nat × VObj)), b ∈ l.map (·.1) → ∃ x, hget l b = some x := by
      intro l
      induction l with
      | nil => intro h; cases h
      | cons p r ih =>
        obtain ⟨k, y⟩ := p
        intro hq
        rw [hget_cons]
        by_cases e : k = b
        · exact ⟨y, by rw [if_pos e]⟩
        · rw [if_neg e]
          rcases List.mem_cons.1 hq with hq | hq
          · exact absurd hq.symm e
          · exact ih hq
    obtain ⟨x, hx⟩ := key _ hin
    have h2 : hget O b = some x := by
      rw [hget_restO] at hx
      split at hx
      · cases hx
      · exact hx
    exact absurd (h b x h2) (by omega)
theorem wkO_cells {R : List (Nat × Nat)} {b b' n z : Nat} (h : (b, b') ∈ R) : RenO R 0 (.cells true [.gs b n z]) (.cells true [.gs b' n z]) := .cells (.cons (.gs h) .nil)
theorem wkO_loop {R : List (Nat × Nat)} (ps : List Tmp) (asg bd : Code) (h0 : (0, 0) ∈ R) (h1 : (1, 1) ∈ R) (h2 : (2, 2) ∈ R) : RenO R 0 (.loop [.junk, .junk, .junk, .junk, .ptr 0 0, .ptr 1 0, .junk, .junk, .junk, .junk, .junk, .junk, .junk, .junk, .junk, .junk, .junk, .junk, .junk, .junk, .junk] ps asg bd .ready none 2) (.loop [.junk, .junk, .junk, .junk, .ptr 0 0, .ptr 1 0, .junk, .junk, .junk, .junk, .junk, .junk, .junk, .junk, .junk, .junk, .junk, .junk, .junk, .junk, .junk] ps asg bd .ready none 2) := by
  refine .loop ?_ (.inr h2)
  repeat' (first | exact RenL.nil | exact RenV.junk | exact RenV.ptr h0 | exact RenV.ptr h1 | refine RenL.cons ?_ ?_)
theorem wkO_ds {R : List (Nat × Nat)} (a : List (Nat × Nd)) : RenO R 0 (.opt (dsR a)) (.opt (dsR a)) := .opt (RenL.of (dsR_nl a))
theorem wkO_ns {R : List (Nat × Nat)} (a : List (Nat × Nd)) : RenO R 0 (.opt (nsR a)) (.opt (nsR a)) := .opt (RenL.of (nsR_nl a))
theorem nV_args {R : List (Nat × Nat)} (n : Nd) (d : Nat) (h : (3, 3) ∈ R) : RenL R 0 [nV n, iV d, .yl 3] [nV n, iV d, .yl 3] := .cons (.of (nameless_nV n)) (.cons (.of (nameless_sc _)) (.cons (.yl h) .nil))
/-- The same at the names of the loop over the kids. -/
theorem WkC.at10 {ps : List Tmp} {asg bd : Code} {n : Nd} {d : Nat} {a : List (Nat × Nd)} (h : WkC ps asg bd n d a) {H : Heap} (g0 : H.get 0 = some (.cells true [.gs 10 a.length 1])) (g1 : H.get 1 = some (.cells true [.gs 11 a.length 4])) (g2 : H.get 2 = some .defs) (g3 : H.get 3 = some (.loop [.junk, .junk, .junk, .junk, .ptr 0 0, .ptr 1 0, .junk, .junk, .junk, .junk, .junk, .junk, .junk, .junk, .junk, .junk, .junk, .junk, .junk, .junk, .junk] ps asg bd .ready none 2)) (g8 : H.get 10 = some (.opt (dsR a))) (g9 : H.get 11 = some (.opt (nsR a))) (hn : H.next = 13) :
    VCall Tryz.prog 34 [nV n, iV d, .yl 3] H (fun v K => v = booV true ∧ K = ⟨wkO ps asg bd 17 18 (a ++ walkN d n) ++ restO [0, 1, 2, 3, 10, 11] H.objs, 19⟩) := by
  refine VCall.live fun hlive => ?_
  obtain ⟨objs, nx⟩ := H
  simp only at hn
  subst hn
  have g : ∀ b : Nat, memN b [0, 1, 2, 3, 10, 11] = true → (⟨keepO [0, 1, 2, 3, 10, 11] objs, 13⟩ : Heap).get b = (⟨objs, 13⟩ : Heap).get b := fun b hb => by
    show hget (keepO [0, 1, 2, 3, 10, 11] objs) b = hget objs b
    rw [hget_keepO, hb]
  refine VCall.at (n1 := 6) (O1 := wkO ps asg bd 4 5 a) [0, 1, 2, 3, 10, 11] [(0, 0), (1, 1), (2, 2), (3, 3), (10, 4), (11, 5)] rfl
    ⟨⟨_, (g 0 rfl).trans g0, wkO_cells (by decide)⟩, ⟨_, (g 1 rfl).trans g1, wkO_cells (by decide)⟩, ⟨_, (g 2 rfl).trans g2, .defs⟩, ⟨_, (g 3 rfl).trans g3, wkO_loop ps asg bd (by decide) (by decide) (by decide)⟩, ⟨_, (g 10 rfl).trans g8, wkO_ds a⟩, ⟨_, (g 11 rfl).trans g9, wkO_ns a⟩, trivial⟩
    (nV_args n d (by decide)) h ?_
  rintro v K ⟨rfl, rfl⟩
  refine ⟨booV true, wkO ps asg bd 17 18 (a ++ walkN d n), ⟨rfl, .of (nameless_sc _), ⟨⟨_, rfl, wkO_cells (by change (10, 17) ∈ ([(11, 18), (10, 17), (9, 16), (8, 15), (7, 14), (6, 13), (0, 0), (1, 1), (2, 2), (3, 3), (4, 10), (5, 11)] : List (Nat × Nat)); decide)⟩, ⟨_, rfl, wkO_cells (by change (11, 18) ∈ ([(11, 18), (10, 17), (9, 16), (8, 15), (7, 14), (6, 13), (0, 0), (1, 1), (2, 2), (3, 3), (4, 10), (5, 11)] : List (Nat × Nat)); decide)⟩, ⟨_, rfl, .defs⟩, ⟨_, rfl, wkO_loop ps asg bd (by change (0, 0) ∈ ([(11, 18), (10, 17), (9, 16), (8, 15), (7, 14), (6, 13), (0, 0), (1, 1), (2, 2), (3, 3), (4, 10), (5, 11)] : List (Nat × Nat)); decide) (by change (1, 1) ∈ ([(11, 18), (10, 17), (9, 16), (8, 15), (7, 14), (6, 13), (0, 0), (1, 1), (2, 2), (3, 3), (4, 10), (5, 11)] : List (Nat × Nat)); decide) (by change (2, 2) ∈ ([(11, 18), (10, 17), (9, 16), (8, 15), (7, 14), (6, 13), (0, 0), (1, 1), (2, 2), (3, 3), (4, 10), (5, 11)] : List (Nat × Nat)); decide)⟩, ⟨_, rfl, wkO_ds _⟩, ⟨_, rfl, wkO_ns _⟩, trivial⟩⟩, ?_, rfl, rfl⟩
  have hl : ∀ b x, hget objs b = some x → b < 13 := hlive
  simp only [wkO, List.all_cons, List.all_nil, memB_restO (D := [0, 1, 2, 3, 10, 11]) (b := 0) rfl, memB_restO (D := [0, 1, 2, 3, 10, 11]) (b := 1) rfl, memB_restO (D := [0, 1, 2, 3, 10, 11]) (b := 2) rfl, memB_restO (D := [0, 1, 2, 3, 10, 11]) (b := 3) rfl, memB_live (D := [0, 1, 2, 3, 10, 11]) hl (show 13 ≤ 17 by omega), memB_live (D := [0, 1, 2, 3, 10, 11]) hl (show 13 ≤ 18 by omega)]
  rfl
/-- The same where nothing was told yet. -/
theorem WkC.at4 {ps : List Tmp} {asg bd : Code} {n : Nd} {ts : List VV} (h : WkC ps asg bd n 0 []) {H : Heap} (g0 : H.get 0 = some (.cells true [.sc (.slice none 0 0)])) (g1 : H.get 1 = some (.cells true [.sc (.slice none 0 0)])) (g2 : H.get 2 = some .defs) (g3 : H.get 3 = some (.loop ts ps asg bd .ready none 2)) (hts : RenL [(0, 0), (1, 1), (2, 2), (3, 3)] 0 ts [.junk, .junk, .junk, .junk, .ptr 0 0, .ptr 1 0, .junk, .junk, .junk, .junk, .junk, .junk, .junk, .junk, .junk, .junk, .junk, .junk, .junk, .junk, .junk]) (hn : H.next = 4) :
    VCall Tryz.prog 34 [nV n, iV 0, .yl 3] H (fun v K => v = booV true ∧ K = ⟨wkO ps asg bd 8 9 (walkN 0 n) ++ restO [0, 1, 2, 3] H.objs, 10⟩) := by
  refine VCall.live fun hlive => ?_
  obtain ⟨objs, nx⟩ := H
  simp only at hn
  subst hn
  have g : ∀ b : Nat, memN b [0, 1, 2, 3] = true → (⟨keepO [0, 1, 2, 3] objs, 4⟩ : Heap).get b = (⟨objs, 4⟩ : Heap).get b := fun b hb => by
    show hget (keepO [0, 1, 2, 3] objs) b = hget objs b
    rw [hget_keepO, hb]
  refine VCall.at (n1 := 6) (O1 := wkO ps asg bd 4 5 []) [0, 1, 2, 3] [(0, 0), (1, 1), (2, 2), (3, 3)] rfl
    ⟨⟨_, (g 0 rfl).trans g0, .cells (.cons .gsN .nil)⟩, ⟨_, (g 1 rfl).trans g1, .cells (.cons .gsN .nil)⟩, ⟨_, (g 2 rfl).trans g2, .defs⟩, ⟨_, (g 3 rfl).trans g3, .loop hts (.inr (by decide))⟩, rfl, congrArg VObj.opt nsR_nil, trivial⟩
    (nV_args n 0 (by decide)) h ?_
  rintro v K ⟨rfl, rfl⟩
  refine ⟨booV true, wkO ps asg bd 8 9 (walkN 0 n), ⟨rfl, .of (nameless_sc _), ⟨⟨_, rfl, wkO_cells (by change (10, 8) ∈ ([(11, 9), (10, 8), (9, 7), (8, 6), (7, 5), (6, 4), (0, 0), (1, 1), (2, 2), (3, 3)] : List (Nat × Nat)); decide)⟩, ⟨_, rfl, wkO_cells (by change (11, 9) ∈ ([(11, 9), (10, 8), (9, 7), (8, 6), (7, 5), (6, 4), (0, 0), (1, 1), (2, 2), (3, 3)] : List (Nat × Nat)); decide)⟩, ⟨_, rfl, .defs⟩, ⟨_, rfl, wkO_loop ps asg bd (by change (0, 0) ∈ ([(11, 9), (10, 8), (9, 7), (8, 6), (7, 5), (6, 4), (0, 0), (1, 1), (2, 2), (3, 3)] : List (Nat × Nat)); decide) (by change (1, 1) ∈ ([(11, 9), (10, 8), (9, 7), (8, 6), (7, 5), (6, 4), (0, 0), (1, 1), (2, 2), (3, 3)] : List (Nat × Nat)); decide) (by change (2, 2) ∈ ([(11, 9), (10, 8), (9, 7), (8, 6), (7, 5), (6, 4), (0, 0), (1, 1), (2, 2), (3, 3)] : List (Nat × Nat)); decide)⟩, ⟨_, rfl, wkO_ds _⟩, ⟨_, rfl, wkO_ns _⟩, trivial⟩⟩, ?_, rfl, rfl⟩
  have hl : ∀ b x, hget objs b = some x → b < 4 := hlive
  simp only [wkO, List.all_cons, List.all_nil, memB_restO (D := [0, 1, 2, 3]) (b := 0) rfl, memB_restO (D := [0, 1, 2, 3]) (b := 1) rfl, memB_restO (D := [0, 1, 2, 3]) (b := 2) rfl, memB_restO (D := [0, 1, 2, 3]) (b := 3) rfl, memB_live (D := [0, 1, 2, 3]) hl (show 4 ≤ 8 by omega), memB_live (D := [0, 1, 2, 3]) hl (show 4 ≤ 9 by omega)]
  rfl
theorem WkC.all {ps : List Tmp} {asg bd : Code} (h : ∀ lo : VObj, lo = .loop [.junk, .junk, .junk, .junk, .ptr 0 0, .ptr 1 0, .junk, .junk, .junk, .junk, .junk, .junk, .junk, .junk, .junk, .junk, .junk, .junk, .junk, .junk, .junk] ps asg bd .ready none 2 → ∀ f, f ≤ 20000 → (∀ n d a, cntN n ≤ f → a.length + cntN n ≤ 20000 → d + cntN n ≤ 100000 → WkC ps asg bd n d a) → ∀ n d a, cntN n ≤ f + 1 → a.length + cntN n ≤ 20000 → d + cntN n ≤ 100000 → WkC ps asg bd n d a) (n : Nd) (hn : cntN n ≤ 20000) : WkC ps asg bd n 0 [] := by
  have key : ∀ f, f ≤ 20000 → ∀ n d a, cntN n ≤ f → a.length + cntN n ≤ 20000 → d + cntN n ≤ 100000 → WkC ps asg bd n d a := by
    intro f
    induction f with
    | zero =>
      intro _ n d a h1
      have := cntN_pos n
      omega
    | succ f ih => exact fun hf => h _ rfl f (by omega) (ih (by omega))
  exact key 20000 (Nat.le_refl _) n 0 [] hn (by simpa using hn) (by omega)
end Go.Proofs.YtnmjdjldbloefaaGreatDoor

/- How many nodes a text's tree may have. -/
namespace Go.Proofs.YtnmjdjldbloefaaGreatDoor
set_option linter.unusedSimpArgs false
set_option linter.unusedVariables false
/-- At most four nodes a sign taken, and three. -/
def Cx (rd : PSt → Nd × PSt) : Prop := ∀ s, cntN (rd s).1 + 4 * (rd s).2.l.length ≤ 4 * s.l.length + 3
theorem isS_cut {x : List UInt8} {s : PSt} (h : (isS x s).1 = true) : (isS x s).2.l.length + 1 = s.l.length := by
  obtain ⟨l, d, e⟩ := s
  cases l with
  | nil => simp [isS] at h
  | cons q r =>
    obtain ⟨g, a⟩ := q
    unfold isS at h ⊢
    simp only at h ⊢
    split at h
    · rename_i hc
      rw [if_pos hc]
      rfl
    · cases h
theorem isS_len (x : List UInt8) (s : PSt) : (isS x s).2.l.length ≤ s.l.length := by
  cases h : (isS x s).1 with
  | true => have := isS_cut h; omega
  | false => rw [isS_no h]; exact Nat.le_refl _
theorem failP_l (e : Nat) (s : PSt) : (failP e s).l = s.l := by unfold failP; split <;> rfl
theorem mustS_len (x : List UInt8) (s : PSt) : (mustS x s).l.length ≤ s.l.length := by
  unfold mustS
  split
  · exact isS_len x s
  · rw [failP_l]; exact Nat.le_refl _
theorem cntL_snoc (l : List Nd) (n : Nd) : cntL (l ++ [n]) = cntL l + cntN n := by
  induction l with
  | nil => simp [cntL]
  | cons k r ih => rw [List.cons_append, cntL, cntL, ih]; omega
theorem deepS_cx {rd : PSt → Nd × PSt} (h : Cx rd) : Cx (deepS rd) := fun s => by
  unfold deepS
  have hl : (deepE s).l = s.l := by unfold deepE; split; exact failP_l 9 s; rfl
  split
  · rw [hl]; simp [nd0, cntN, cntL]; omega
  · exact h ⟨s.l, s.d + 1, s.e⟩
theorem mustS_cut {x : List UInt8} {s : PSt} : (mustS x s).l.length + 1 = s.l.length ∨ ((mustS x s).l.length = s.l.length ∧ (mustS x s).e ≠ 0) := by
  unfold mustS
  split
  · rename_i h; exact .inl (isS_cut h)
  · right
    rw [failP_l]
    refine ⟨rfl, ?_⟩
    unfold failP
    split
    · exact (by decide : (2 : Nat) ≠ 0)
    · assumption
theorem lsLoop_cx {rd : PSt → Nd × PSt} (h : Cx rd) : ∀ (f : Nat) (out : List Nd) (s : PSt), cntL (lsLoop rd f out s).1 + 4 * (lsLoop rd f out s).2.l.length ≤ cntL out + 4 * s.l.length + (if s.e = 0 then 3 else 0)
  | 0, out, s => by rw [lsLoop]; simp only; omega
  | f + 1, out, s => by
    rw [lsLoop]
    have h1 := h s
    by_cases he : s.e = 0
    · rw [if_pos he, if_pos he]
      split
      · rename_i hc
        have := isS_cut hc
        simp only [cntL_snoc]
        omega
      · have h2 := lsLoop_cx h f (out ++ [(rd s).1]) (mustS [44] (rd s).2)
        rw [cntL_snoc] at h2
        rcases mustS_cut (x := [44]) (s := (rd s).2) with h3 | ⟨h3, h4⟩
        · split at h2 <;> omega
        · rw [if_neg h4] at h2
          omega
    · rw [if_neg he, if_neg he]
      simp only; omega
theorem listS_cx {rd : PSt → Nd × PSt} (h : Cx rd) (s : PSt) : cntL (listS rd s).1 + 4 * (listS rd s).2.l.length ≤ 4 * s.l.length + 3 := by
  unfold listS
  split
  · have := isS_len [41] s
    simp only [cntL]; omega
  · have := lsLoop_cx h (s.l.length + 2) [] s
    simp only [cntL] at this
    split at this <;> omega
theorem opS_cut : ∀ (L : List (List UInt8)) (s : PSt), match opS L s with
    | (some _, s') => s'.l.length + 1 = s.l.length
    | (none, s') => s' = s
  | [], s => rfl
  | x :: r, s => by
    rw [opS]
    by_cases h : (isS x s).1 = true
    · rw [if_pos h]; exact isS_cut h
    · rw [if_neg h]; exact opS_cut r s
theorem takeS_cut (k : Nat) (s : PSt) : match takeS k s with
    | (some _, s') => s'.l.length + 1 = s.l.length
    | (none, s') => s' = s := by
  obtain ⟨l, d, e⟩ := s
  cases l with
  | nil => rfl
  | cons q r =>
    obtain ⟨g, a⟩ := q
    unfold takeS
    simp only
    by_cases h : e = 0 ∧ g.kind = k
    · rw [if_pos h]; rfl
    · rw [if_neg h]
theorem nmS_len (s : PSt) : (nmS s).2.l.length ≤ s.l.length := by
  have h := takeS_cut 1 s
  unfold nmS
  generalize takeS 1 s = q at *
  obtain ⟨a, s'⟩ := q
  cases a with
  | none => simp only at h ⊢; subst h; rw [failP_l]; exact Nat.le_refl _
  | some g => obtain ⟨g, b⟩ := g; simp only at h ⊢; omega
theorem lvLoop_cx {nx : PSt → Nd × PSt} (h : Cx nx) (i : Nat) : ∀ (f : Nat) (out : Nd) (s : PSt), cntN (lvLoop i nx f out s).1 + 4 * (lvLoop i nx f out s).2.l.length ≤ cntN out + 4 * s.l.length
  | 0, out, s => by rw [lvLoop]; exact Nat.le_refl _
  | f + 1, out, s => by
    rw [lvLoop]
    have h1 := opS_cut (opL i) s
    generalize opS (opL i) s = q at *
    obtain ⟨a, s1⟩ := q
    cases a with
    | none => simp only at h1 ⊢; subst h1; exact Nat.le_refl _
    | some x =>
      simp only at h1 ⊢
      have h2 := h s1
      have hc : cntN (.mk 13 x 0 [out, (nx s1).1]) = 1 + (cntN out + (cntN (nx s1).1 + 0)) := by rw [cntN, cntL, cntL, cntL]
      split
      · simp only; omega
      · have h3 := lvLoop_cx h i f (.mk 13 x 0 [out, (nx s1).1]) (nx s1).2
        omega
theorem levS_cx {un : PSt → Nd × PSt} (h : Cx un) : ∀ k, Cx (levS un k)
  | 0 => h
  | k + 1 => fun s => by
    rw [levS]
    have h1 := levS_cx h k s
    have h2 := lvLoop_cx (levS_cx h k) (4 - k) ((levS un k s).2.l.length + 1) (levS un k s).1 (levS un k s).2
    omega
theorem primS_cx {un : PSt → Nd × PSt} (h : Cx un) : Cx (primS un) := fun s => by
  unfold primS
  have h1 := takeS_cut 3 s
  generalize takeS 3 s = q at *
  obtain ⟨a, s1⟩ := q
  cases a with
  | some g => obtain ⟨g, b⟩ := g; simp only [cntN, cntL] at h1 ⊢; omega
  | none =>
    simp only
    have h2 := takeS_cut 4 s
    generalize takeS 4 s = q at *
    obtain ⟨a, s2⟩ := q
    cases a with
    | some g => obtain ⟨g, b⟩ := g; simp only [cntN, cntL] at h2 ⊢; omega
    | none =>
      simp only
      split
      · have := isS_len [110, 105, 108] s
        simp only [cntN, cntL]; omega
      · split
        · rename_i hc
          have h3 := isS_cut hc
          have h4 := deepS_cx (levS_cx h 5) (isS [40] s).2
          have h5 := mustS_len [41] (deepS (levS un 5) (isS [40] s).2).2
          simp only; omega
        · have h3 := nmS_len s
          split
          · rename_i hc
            have h4 := isS_cut hc
            have h5 := listS_cx (deepS_cx (levS_cx h 5)) (isS [40] (nmS s).2).2
            simp only [cntN]; omega
          · simp only [cntN, cntL]; omega
theorem unS_cx : ∀ n, Cx (unS n)
  | 0 => fun s => by rw [unS]; simp [nd0, cntN, cntL]; omega
  | n + 1 => fun s => by
    rw [unS]
    split
    · rename_i hc
      have h1 := isS_cut hc
      have h2 := deepS_cx (unS_cx n) (isS [110, 111, 116] s).2
      simp only [cntN, cntL]; omega
    · split
      · rename_i hc
        have h1 := isS_cut hc
        have h2 := deepS_cx (unS_cx n) (isS [45] s).2
        simp only [cntN, cntL]; omega
      · exact primS_cx (unS_cx n) s
theorem exS_cx : Cx exS := fun s => levS_cx (unS_cx _) 5 s
def Sx (st : PSt → Nd × PSt) : Prop := ∀ s, cntN (st s).1 + 8 * (st s).2.l.length ≤ 8 * s.l.length + (if (st s).2.e = 0 then 0 else 8)
def Bx (bl : PSt → Nd × PSt) : Prop := ∀ s, cntN (bl s).1 + 8 * (bl s).2.l.length ≤ 8 * s.l.length + 1
theorem cntN_ge : ∀ n, 1 ≤ cntN n
  | .mk o t m ks => by rw [cntN]; omega
theorem Cx.len {rd : PSt → Nd × PSt} (h : Cx rd) (s : PSt) : (rd s).2.l.length ≤ s.l.length := by
  have h1 := h s
  have h2 := cntN_ge (rd s).1
  omega
theorem stLoop_err (st : PSt → Nd × PSt) {s : PSt} (he : ¬ s.e = 0) : ∀ (f : Nat) (out : List Nd), stLoop st f out s = (out, s)
  | 0, out => rfl
  | f + 1, out => by rw [stLoop, if_neg he]
theorem stLoop_sx {st : PSt → Nd × PSt} (h : Sx st) : ∀ (f : Nat) (out : List Nd) (s : PSt), cntL (stLoop st f out s).1 + 8 * (stLoop st f out s).2.l.length ≤ cntL out + 8 * s.l.length + 8
  | 0, out, s => by rw [stLoop]; simp only; omega
  | f + 1, out, s => by
    rw [stLoop]
    by_cases he : s.e = 0
    · rw [if_pos he]
      split
      · have := isS_len [125] s
        simp only; omega
      · have h1 := h s
        by_cases h2 : (st s).2.e = 0
        · rw [if_pos h2] at h1
          have h3 := stLoop_sx h f (out ++ [(st s).1]) (st s).2
          rw [cntL_snoc] at h3
          omega
        · rw [if_neg h2] at h1
          rw [stLoop_err st h2]
          simp only [cntL_snoc]
          omega
    · rw [if_neg he]
      simp only; omega
theorem blockS_bx {st : PSt → Nd × PSt} (h : Sx st) : Bx (blockS st) := fun s => by
  unfold blockS deepS
  have hl : ∀ s, (deepE s).l = s.l := fun s => by unfold deepE; split; exact failP_l 9 s; rfl
  have hm := mustS_len [123] s
  split
  · rw [hl]; simp only [nd0, cntN, cntL]; omega
  · rename_i hd
    rcases mustS_cut (x := [123]) (s := s) with h3 | ⟨h3, h4⟩
    · have h5 := stLoop_sx h ((mustS [123] s).l.length + 2) [] ⟨(mustS [123] s).l, (mustS [123] s).d + 1, (mustS [123] s).e⟩
      simp only [cntL, cntN] at h5 ⊢
      omega
    · exfalso
      apply hd
      unfold deepE
      split
      · unfold failP; rw [if_neg h4]; exact h4
      · exact h4
theorem stmtS_sx {bl : PSt → Nd × PSt} (h : Bx bl) : Sx (stmtS bl) := fun s => by
  have hx := fun s => exS_cx s
  have hxl := fun s => Cx.len exS_cx s
  have done : ∀ {n : Nd} {s' : PSt}, cntN n + 8 * s'.l.length ≤ 8 * s.l.length → cntN n + 8 * s'.l.length ≤ 8 * s.l.length + (if s'.e = 0 then 0 else 8) := fun h => Nat.le_trans h (Nat.le_add_right _ _)
  have done2 : ∀ {n : Nd} {s1 : PSt}, cntN n + 8 * s1.l.length ≤ 8 * s.l.length + 8 → cntN n + 8 * (mustS [59] s1).l.length ≤ 8 * s.l.length + (if (mustS [59] s1).e = 0 then 0 else 8) := fun {n s1} h => by
    rcases mustS_cut (x := [59]) (s := s1) with h3 | ⟨h3, h4⟩
    · split <;> omega
    · rw [if_neg h4, h3]; exact h
  unfold stmtS
  split
  · rename_i hc
    have h0 := isS_cut hc
    generalize (isS [105, 102] s).2 = s0 at *
    refine done ?_
    unfold ifS
    have h1 := hx s0
    have h1' := hxl s0
    have h2 := h (exS s0).2
    have h3 := isS_len [101, 108, 115, 101] (bl (exS s0).2).2
    have h4 := h (isS [101, 108, 115, 101] (bl (exS s0).2).2).2
    split
    · simp only [cntN, cntL]; omega
    · simp only [cntN, cntL]; omega
  · split
    · rename_i hc
      have h0 := isS_cut hc
      generalize (isS [119, 104, 105, 108, 101] s).2 = s0 at *
      refine done ?_
      have h1 := hx s0
      have h1' := hxl s0
      have h2 := h (exS s0).2
      simp only [cntN, cntL]; omega
    · split
      · have h0 := isS_len [115, 116, 111, 112] s
        refine done2 ?_
        simp only [cntN, cntL]; omega
      · split
        · have h0 := nmS_len s
          have h1 := mustS_len [61] (nmS s).2
          have h2 := hx (mustS [61] (nmS s).2)
          have h2' := hxl (mustS [61] (nmS s).2)
          refine done2 ?_
          simp only [cntN, cntL]; omega
        · have h2 := hx s
          have h2' := hxl s
          refine done2 ?_
          simp only [cntN, cntL]; omega
theorem blS_bx : ∀ n, Bx (blS n)
  | 0 => fun s => by rw [blS]; simp only [nd0, cntN, cntL]; omega
  | n + 1 => blockS_bx (stmtS_sx (blS_bx n))
theorem varS_cx : Cx varS := fun s => by
  have := nmS_len s
  unfold varS
  simp only [cntN, cntL]; omega
theorem onS_cnt (s : PSt) : cntN (onS s).1 + 8 * (onS s).2.l.length ≤ 8 * s.l.length + 5 := by
  unfold onS
  simp only
  have h1 := mustS_len [111, 110] s
  generalize mustS [111, 110] s = s1 at *
  have h2 := nmS_len s1
  generalize (nmS s1).2 = s2 at *
  have h3 := mustS_len [40] s2
  generalize mustS [40] s2 = s3 at *
  have h4 := listS_cx varS_cx s3
  have h6 := blS_bx ((listS varS s3).2.l.length + 1) (listS varS s3).2
  rw [cntN, cntL_snoc]
  have h5 : (listS varS s3).2.l.length ≤ s3.l.length := by omega
  omega
theorem scLoop_cnt : ∀ (f : Nat) (out : List Nd) (s : PSt), cntL (scLoop f out s).1 + 8 * (scLoop f out s).2.l.length ≤ cntL out + 8 * s.l.length + 5 * f
  | 0, out, s => by rw [scLoop]; exact Nat.le_refl _
  | f + 1, out, s => by
    rw [scLoop]
    split
    · have h1 := onS_cnt s
      have h2 := scLoop_cnt f (out ++ [(onS s).1]) (onS s).2
      rw [cntL_snoc] at h2
      omega
    · simp only; omega
theorem scriptS_cnt (s : PSt) : cntN (scriptS s).1 ≤ 13 * s.l.length + 11 := by
  unfold scriptS
  have h := scLoop_cnt (s.l.length + 2) [] s
  simp only [cntN, cntL] at h ⊢
  omega
end Go.Proofs.YtnmjdjldbloefaaGreatDoor

/- How many nodes a text's tree may have: parseT. -/
namespace Go.Proofs.YtnmjdjldbloefaaGreatDoor
set_option linter.unusedSimpArgs false
set_option linter.unusedVariables false
theorem parseT_cnt (t : List UInt8) : cntN (parseT t).1 ≤ 14000 := by
  have h0 : cntN nd0 ≤ 14000 := by simp only [nd0, cntN, cntL]; omega
  unfold parseT
  cases hS : signsB t with
  | inl e => exact h0
  | inr l =>
    have hl := (signsB_wf hS).2
    have h := scriptS_cnt ⟨l, 0, 0⟩
    simp only at h ⊢
    split
    · exact h0
    · split
      · exact h0
      · show cntN (scriptS ⟨l, 0, 0⟩).1 ≤ 14000
        omega
end Go.Proofs.YtnmjdjldbloefaaGreatDoor

/- A tree's walk told: all(n.Walk()). -/
namespace Go.Proofs.YtnmjdjldbloefaaGreatDoor
open Go Go.RowKit
set_option linter.unusedSimpArgs false
set_option linter.unusedVariables false
set_option maxRecDepth 100000
set_option maxHeartbeats 8000000
theorem sty_IW : SlTy Tryz.prog 43 1 8 := ⟨⟨_, _, _, rfl, rfl, rfl, rfl, rfl, rfl⟩⟩
def allV (l : List (Nat × Nd)) : VV := .tp [.ro l.length (dsR l), .ro l.length (nsR l)]
theorem all_call (n : Nd) (hN : cntN n ≤ 20000) (H : Heap) : VCall Tryz.prog 14 [.fn (.func 33) [] [.rp (cellsN n) 0]] H (fun v K => v = allV (walkN 0 n) ∧ K = H) := by
  have hk : True := trivial
  refine VCall.frozen (Q := fun v K => Frz K v (allV (walkN 0 n))) ?_ ?_ (fun v K h => h)
  · simp only [List.mem_singleton, forall_eq]
    exact nameless_fn (by simp) (by simp only [List.mem_singleton, forall_eq]; exact nameless_rp (cellsN_nameless n))
  refine VCall.go Tryz.func14 rfl ?_
  (repeat' (first | with_reducible refine And.intro ?_ ?_ | ((with_reducible intro hc); (try simp only [zA, zB, zC, zD, zE, zF, zG, zH, zI, zJ, zK, zL, zM, zN, zO, zP, zQ, zR, zS, zT, zU, zV, zW] at hc); (first | (exact absurd rfl hc) | (exact absurd trivial hc) | (exfalso; omega) | skip)) | exact Is.mk rfl rfl | ((conv => whnf); first | with_reducible refine And.intro ?_ ?_ | with_reducible intro hx | exact Is.mk rfl rfl | (with_reducible first | apply Val.via | apply ValH.via) | refine ifB_intro ?_ ?_ | refine xA (by omega) ?_ | ((refine xB ?_); intro kw hk1 hk2) | refine xC (by omega) ?_ | refine xD ?_ | refine xE (by omega) ?_ | refine xF (by omega) ?_ | refine xG ?_ | refine xH ?_ | refine xI (by omega) ?_ | refine xJ (by omega) ?_ | (with_reducible refine stopA ?_) | refine Exists.intro _ (And.intro (by (first | exact vat_nd rfl rfl | exact vat_rowsN hk rfl | exact vat_of rfl rfl rfl | rfl)) ?_) | refine GOp.drawn (by rfl) (by rfl) (Nat.le_of_ble_eq_true (by rfl)) (by rfl) | refine GOp.via (by rfl) ?_ | fail | (with_reducible first | refine stopO ?_ | refine stopE ?_ | refine stopD ?_ | refine stopW ?_ | refine stopG ?_ | refine stopC ?_ | refine stopR ?_))))
  (all_goals (first | omega | contradiction | skip))
  refine GWP'.mk (GWP.range0 rfl rfl ?_)
  refine VCall.go Tryz.func33 rfl ?_
  have ev : ∃ op tx nm ks, n = .mk op tx nm ks := by cases n; exact ⟨_, _, _, _, rfl⟩
  obtain ⟨op, tx, nm, ks, rfl⟩ := ev
  rw [cellsN]
  (repeat' (first | with_reducible refine And.intro ?_ ?_ | ((with_reducible intro hc); (try simp only [zA, zB, zC, zD, zE, zF, zG, zH, zI, zJ, zK, zL, zM, zN, zO, zP, zQ, zR, zS, zT, zU, zV, zW] at hc); (first | (exact absurd rfl hc) | (exact absurd trivial hc) | (exfalso; omega) | skip)) | exact Is.mk rfl rfl | ((conv => whnf); first | with_reducible refine And.intro ?_ ?_ | with_reducible intro hx | exact Is.mk rfl rfl | (with_reducible first | apply Val.via | apply ValH.via) | refine ifB_intro ?_ ?_ | refine xA (by omega) ?_ | ((refine xB ?_); intro kw hk1 hk2) | refine xC (by omega) ?_ | refine xD ?_ | refine xE (by omega) ?_ | refine xF (by omega) ?_ | refine xG ?_ | refine xH ?_ | refine xI (by omega) ?_ | refine xJ (by omega) ?_ | (with_reducible refine stopA ?_) | refine Exists.intro _ (And.intro (by (first | exact vat_nd rfl rfl | exact vat_rowsN hk rfl | exact vat_of rfl rfl rfl | rfl)) ?_) | refine GOp.drawn (by rfl) (by rfl) (Nat.le_of_ble_eq_true (by rfl)) (by rfl) | refine GOp.via (by rfl) ?_ | fail | (with_reducible first | refine stopO ?_ | refine stopE ?_ | refine stopD ?_ | refine stopW ?_ | refine stopG ?_ | refine stopC ?_ | refine stopR ?_))))
  (all_goals (first | omega | contradiction | skip))
  refine GCall'.mk (VCall.mono (WkC.at4 (n := .mk op tx nm ks) (WkC.all ?_ _ hN) rfl rfl rfl rfl ?_ rfl) ?_)
  rotate_left
  · repeat' (first | exact RenL.nil | exact RenV.junk | exact RenV.ptr (by decide) | refine RenL.cons ?_ ?_)
  · rintro _ _ ⟨rfl, rfl⟩
    (repeat' (first | with_reducible refine And.intro ?_ ?_ | ((with_reducible intro hc); (try simp only [zA, zB, zC, zD, zE, zF, zG, zH, zI, zJ, zK, zL, zM, zN, zO, zP, zQ, zR, zS, zT, zU, zV, zW] at hc); (first | (exact absurd rfl hc) | (exact absurd trivial hc) | (exfalso; omega) | skip)) | exact Is.mk rfl rfl | ((conv => whnf); first | with_reducible refine And.intro ?_ ?_ | with_reducible intro hx | exact Is.mk rfl rfl | (with_reducible first | apply Val.via | apply ValH.via) | refine ifB_intro ?_ ?_ | refine xA (by omega) ?_ | ((refine xB ?_); intro kw hk1 hk2) | refine xC (by omega) ?_ | refine xD ?_ | refine xE (by omega) ?_ | refine xF (by omega) ?_ | refine xG ?_ | refine xH ?_ | refine xI (by omega) ?_ | refine xJ (by omega) ?_ | (with_reducible refine stopA ?_) | refine Exists.intro _ (And.intro (by (first | exact vat_nd rfl rfl | exact vat_rowsN hk rfl | exact vat_of rfl rfl rfl | rfl)) ?_) | refine GOp.drawn (by rfl) (by rfl) (Nat.le_of_ble_eq_true (by rfl)) (by rfl) | refine GOp.via (by rfl) ?_ | refine GWP.drawY mixed _ (by kernel_rfl) (by rfl) ?_ | fail | (with_reducible first | refine stopO ?_ | refine stopE ?_ | refine stopD ?_ | refine stopW ?_ | refine stopG ?_ | refine stopC ?_ | refine stopR ?_))))
    (all_goals (first | omega | contradiction | skip))
    (refine Done'.mk ⟨_, _, _, _, _, _, _, rfl, (by intro h; cases h), ?_⟩)
    (repeat' (first | with_reducible refine And.intro ?_ ?_ | ((with_reducible intro hc); (try simp only [zA, zB, zC, zD, zE, zF, zG, zH, zI, zJ, zK, zL, zM, zN, zO, zP, zQ, zR, zS, zT, zU, zV, zW] at hc); (first | (exact absurd rfl hc) | (exact absurd trivial hc) | (exfalso; omega) | skip)) | exact Is.mk rfl rfl | ((conv => whnf); first | with_reducible refine And.intro ?_ ?_ | with_reducible intro hx | exact Is.mk rfl rfl | (with_reducible first | apply Val.via | apply ValH.via) | refine ifB_intro ?_ ?_ | refine xA (by omega) ?_ | ((refine xB ?_); intro kw hk1 hk2) | refine xC (by omega) ?_ | refine xD ?_ | refine xE (by omega) ?_ | refine xF (by omega) ?_ | refine xG ?_ | refine xH ?_ | refine xI (by omega) ?_ | refine xJ (by omega) ?_ | (with_reducible refine stopA ?_) | refine Exists.intro _ (And.intro (by (first | exact vat_nd rfl rfl | exact vat_rowsN hk rfl | exact vat_of rfl rfl rfl | rfl)) ?_) | refine GOp.drawn (by rfl) (by rfl) (Nat.le_of_ble_eq_true (by rfl)) (by rfl) | refine GOp.via (by rfl) ?_ | refine GWP.drawY mixed _ (by kernel_rfl) (by rfl) ?_ | fail | (with_reducible first | refine stopO ?_ | refine stopE ?_ | refine stopD ?_ | refine stopW ?_ | refine stopG ?_ | refine stopC ?_ | refine stopR ?_))))
    (all_goals (first | omega | contradiction | skip))
    exact Done'.mk (Frz.tp (.cons (Frz.gs rfl (dsR_len _) (dsR_nl _)) (.cons (Frz.gs rfl (nsR_len _) (nsR_nl _)) .nil)))
  intro lo hlo f hf ih n d a h1 h2 h3
  obtain ⟨op, tx, nm, ks⟩ := n
  have hc : cntN (.mk op tx nm ks) = 1 + cntL ks := by rw [cntN]
  rw [hc] at h1 h2 h3
  have hlen := len_le_cnt ks
  refine WkC.of ?_
  rw [nV, cellsN]
  refine VCall.go Tryz.func34 rfl ?_
  (repeat' (first | with_reducible refine And.intro ?_ ?_ | ((with_reducible intro hc); (try simp only [zA, zB, zC, zD, zE, zF, zG, zH, zI, zJ, zK, zL, zM, zN, zO, zP, zQ, zR, zS, zT, zU, zV, zW] at hc); (first | (exact absurd rfl hc) | (exact absurd trivial hc) | (exfalso; omega) | skip)) | exact Is.mk rfl rfl | ((conv => whnf); first | with_reducible refine And.intro ?_ ?_ | with_reducible intro hx | exact Is.mk rfl rfl | (with_reducible first | apply Val.via | apply ValH.via) | refine ifB_intro ?_ ?_ | refine xA (by omega) ?_ | ((refine xB ?_); intro kw hk1 hk2) | refine xC (by omega) ?_ | refine xD ?_ | refine xE (by omega) ?_ | refine xF (by omega) ?_ | refine xG ?_ | refine xH ?_ | refine xI (by omega) ?_ | refine xJ (by omega) ?_ | (with_reducible refine stopA ?_) | refine Exists.intro _ (And.intro (by (first | exact vat_nd rfl rfl | exact vat_rowsN hk rfl | exact vat_of rfl rfl rfl | rfl)) ?_) | refine GOp.drawn (by rfl) (by rfl) (Nat.le_of_ble_eq_true (by rfl)) (by rfl) | refine GOp.via (by rfl) ?_ | fail | (with_reducible first | refine stopO ?_ | refine stopE ?_ | refine stopD ?_ | refine stopW ?_ | refine stopG ?_ | refine stopC ?_ | refine stopR ?_))))
  (all_goals (first | omega | contradiction | skip))
  (refine GRound'.mk (VRound.go rfl rfl ?_))
  (repeat' (first | with_reducible refine And.intro ?_ ?_ | ((with_reducible intro hc); (try simp only [zA, zB, zC, zD, zE, zF, zG, zH, zI, zJ, zK, zL, zM, zN, zO, zP, zQ, zR, zS, zT, zU, zV, zW] at hc); (first | (exact absurd rfl hc) | (exact absurd trivial hc) | (exfalso; omega) | skip)) | exact Is.mk rfl rfl | ((conv => whnf); first | with_reducible refine And.intro ?_ ?_ | with_reducible intro hx | exact Is.mk rfl rfl | (with_reducible first | apply Val.via | apply ValH.via) | refine ifB_intro ?_ ?_ | refine xA (by omega) ?_ | ((refine xB ?_); intro kw hk1 hk2) | refine xC (by omega) ?_ | refine xD ?_ | refine xE (by omega) ?_ | refine xF (by omega) ?_ | refine xG ?_ | refine xH ?_ | refine xI (by omega) ?_ | refine xJ (by omega) ?_ | (with_reducible refine stopA ?_) | refine Exists.intro _ (And.intro (by (first | exact vat_nd rfl rfl | exact vat_rowsN hk rfl | exact vat_of rfl rfl rfl | rfl)) ?_) | refine GOp.drawn (by rfl) (by rfl) (Nat.le_of_ble_eq_true (by rfl)) (by rfl) | refine GOp.via (by rfl) ?_ | fail | (with_reducible first | refine stopO ?_ | refine stopE ?_ | refine stopD ?_ | refine stopW ?_ | refine stopG ?_ | refine stopC ?_ | refine stopR ?_))))
  (all_goals (first | omega | contradiction | skip))
  refine GWP'.mk (GWP.drawM mixed 21 [3, 7, 8, 9] (fun H => [((H.del 4).add (.opt (dsR a ++ [iV d]))), ((((H.del 4).add (.opt (dsR a ++ [iV d]))).del 5).add (.opt (nsR a ++ [iV op, strV tx, iV nm, .ro (List.length ks) (rowsN ks)]))), (((((H.del 4).add (.opt (dsR a ++ [iV d]))).del 5).add (.opt (nsR a ++ [iV op, strV tx, iV nm, .ro (List.length ks) (rowsN ks)]))).set 0 (.cells true [.gs H.next (a.length + 1) 1])), ((((((H.del 4).add (.opt (dsR a ++ [iV d]))).del 5).add (.opt (nsR a ++ [iV op, strV tx, iV nm, .ro (List.length ks) (rowsN ks)]))).set 0 (.cells true [.gs H.next (a.length + 1) 1])).set 1 (.cells true [.gs (H.next + 1) (a.length + 1) 4]))]) (by kernel_rfl) (by rfl) ?_)
  repeat' (first | with_reducible refine And.intro ?_ ?_ | ((with_reducible intro hc); (try simp only [zA, zB, zC, zD, zE, zF, zG, zH, zI, zJ, zK, zL, zM, zN, zO, zP, zQ, zR, zS, zT, zU, zV, zW] at hc); (first | (exact absurd rfl hc) | (exact absurd trivial hc) | (exfalso; omega) | skip)) | exact Is.mk rfl rfl | exact trivial | ((conv => whnf); first | with_reducible refine And.intro ?_ ?_ | with_reducible intro hx | exact Is.mk rfl rfl | exact trivial | (with_reducible first | apply Val.via | apply ValH.via) | refine ifB_intro ?_ ?_ | refine xA (by omega) ?_ | ((refine xB ?_); intro kw hk1 hk2) | refine xC (by omega) ?_ | refine xD ?_ | refine xE (by omega) ?_ | refine xF (by omega) ?_ | refine xG ?_ | refine xH ?_ | refine xI (by omega) ?_ | refine xJ (by omega) ?_ | (with_reducible refine stopA ?_) | refine Exists.intro _ (And.intro (by (first | exact vat_nd rfl rfl | exact vat_rowsN hk rfl | exact vat_of rfl rfl rfl | rfl)) ?_) | (refine GOp.drawn1 (n := .mk op tx nm ks) (by rfl) (by rfl) (by rfl)) | refine GOp.drawn (by rfl) (by rfl) (Nat.le_of_ble_eq_true (by rfl)) (by rfl) | refine GOp.via (by rfl) ?_ | (first | (refine stopO (GOp'.grow rfl sty_IW (d := .slice 3) Tryz.underlying43 (by intro k h; cases h) rfl (m := 1) (l := [iV d]) (by rfl) (by rfl) rfl (dsR_len a) (by omega) (by omega) ?_)) | (refine stopO (GOp'.grow rfl sty_N (d := .slice 27) Tryz.underlying25 (by intro k h; cases h) rfl (m := 1) (l := [iV op, strV tx, iV nm, .ro (List.length ks) (rowsN ks)]) (by rfl) (by rfl) rfl (nsR_len a) (by omega) (by omega) ?_))) | (with_reducible first | refine stopO ?_ | refine stopE ?_ | refine stopD ?_ | refine stopW ?_ | refine stopG ?_ | refine stopC ?_ | refine stopR ?_)))
  (all_goals (first | omega | contradiction | skip))
  have hsd : dsR (a ++ [(d, .mk op tx nm ks)]) = dsR a ++ [iV d] := dsR_snoc _ _
  have hsn : nsR (a ++ [(d, .mk op tx nm ks)]) = nsR a ++ [iV op, strV tx, iV nm, .ro (List.length ks) (rowsN ks)] := by rw [nsR_snoc, cellsN]
  have hw : walkN d (.mk op tx nm ks) = (d, .mk op tx nm ks) :: walkL (d + 1) ks := by rw [walkN]
  (refine GWP'.mk (GWP.loopB [0, 1, 3, 8, 9] (fun (x : Nat × List (Nat × Nd)) => x.1 ≤ ks.length ∧ a.length + 1 ≤ x.2.length ∧ x.2.length + cntL (ks.drop x.1) = a.length + 1 + cntL ks ∧ x.2 ++ walkL (d + 1) (ks.drop x.1) = a ++ walkN d (.mk op tx nm ks)) (fun x => [(17, iV x.1)]) (fun x => [(0, .cells true [.gs 10 x.2.length 1]), (1, .cells true [.gs 11 x.2.length 4]), (3, lo), (10, .opt (dsR x.2)), (11, .opt (nsR x.2))]) 12 (fun x => ks.length - x.1) (0, a ++ [(d, .mk op tx nm ks)]) ⟨Nat.zero_le _, by simp, by simp, by rw [hw]; simp⟩ ?_); (conv => whnf); refine And.intro ?_ ?_)
  · focus (refine KeptA.of [(8, 10), (9, 11)] rfl rfl (by repeat' (first | exact trivial | refine And.intro rfl ?_)) rfl ?_ ?_; all_goals (repeat' (first | exact trivial | (refine And.intro ?_ ?_) | (refine Exists.intro _ (And.intro rfl ?_)) | (refine RenO.opt ?_) | (refine RenO.toOpt ?_) | (refine RenO.cells ?_) | exact RenO.defs | exact RenL.nil | (refine RenL.cons ?_ ?_) | (first | (first | (rw [hlo]; exact RenO.loop (by repeat' (first | exact RenL.nil | exact RenV.junk | exact RenV.ptrL (Nat.le_of_ble_eq_true rfl) | refine RenL.cons ?_ ?_)) (.inl ⟨Nat.le_of_ble_eq_true rfl, rfl⟩)) | exact RenL.eq hsn.symm (nsR_nl _) | exact RenL.eq hsd.symm (dsR_nl _) | exact RenL.of (dsR_nl _) | exact RenL.of (nsR_nl _) | exact RenV.eq (scI_eq (by omega)) (nameless_sc _)) | (with_reducible exact RenV.sc) | exact RenV.gsN | exact RenV.gsZ | exact RenV.gsL (by decide) | exact RenV.slL (by decide) | ((first | refine RenV.gsE (by (first | exact List.Mem.head _ | exact List.Mem.tail _ (List.Mem.head _) | exact List.Mem.tail _ (List.Mem.tail _ (List.Mem.head _)) | (simp; done))) ?_ | refine RenV.eq (scI_eq ?_) (nameless_sc _)); (first | rfl | omega | (simp only [List.length_append, List.length_cons, List.length_nil, List.length_map, List.length_take, List.length_drop] <;> omega) | (simp only <;> omega) | (simp <;> omega))) | exact RenV.undef) | (with_unfolding_all exact (rfl : (_ : VObj) = _)))))
  rintro ⟨i, b⟩ ⟨g1, g0, g2, g3⟩
  simp only at g1 g0 g2 g3 ⊢
  by_cases hil : i < ks.length
  · obtain ⟨kd, hk⟩ := list_at hil
    rw [dropN_at hk, cntL] at g2
    rw [dropN_at hk, walkL] at g3
    have kc := fun (H : Heap) y0 y1 y2 (y3 : H.get 3 = some lo) g8 g9 hn => (ih kd (d + 1) b (by omega) (by omega) (by omega)).at10 (H := H) y0 y1 y2 (y3.trans (congrArg some hlo)) g8 g9 hn
    have hb := walkN_len (d + 1) kd
    generalize hq : cntN kd = q at *
    generalize hwk : walkN (d + 1) kd = wk at *
    obtain ⟨op2, tx2, nm2, kk2⟩ := kd
    simp only [nV, cellsN] at kc
    (repeat' (first | with_reducible refine And.intro ?_ ?_ | ((with_reducible intro hc); (try simp only [zA, zB, zC, zD, zE, zF, zG, zH, zI, zJ, zK, zL, zM, zN, zO, zP, zQ, zR, zS, zT, zU, zV, zW] at hc); (first | (exact absurd rfl hc) | (exact absurd trivial hc) | (exfalso; omega) | skip)) | exact Is.mk rfl rfl | ((conv => whnf); first | with_reducible refine And.intro ?_ ?_ | with_reducible intro hx | exact Is.mk rfl rfl | (with_reducible first | apply Val.via | apply ValH.via) | refine ifB_intro ?_ ?_ | refine xA (by omega) ?_ | ((refine xB ?_); intro kw hk1 hk2) | refine xC (by omega) ?_ | refine xD ?_ | refine xE (by omega) ?_ | refine xF (by omega) ?_ | refine xG ?_ | refine xH ?_ | refine xI (by omega) ?_ | refine xJ (by omega) ?_ | (with_reducible refine stopA ?_) | refine Exists.intro _ (And.intro (by (first | exact vat_nd rfl rfl | exact vat_rowsN hk rfl | exact vat_of rfl rfl rfl | rfl)) ?_) | refine GOp.drawn (by rfl) (by rfl) (Nat.le_of_ble_eq_true (by rfl)) (by rfl) | refine GOp.via (by rfl) ?_ | refine GWP.drawY mixed _ (by kernel_rfl) (by rfl) ?_ | (refine GCall.mk ((kc _ rfl rfl rfl rfl rfl rfl rfl).mono ?_); rintro _ _ ⟨rfl, rfl⟩) | (with_reducible first | refine stopO ?_ | refine stopE ?_ | refine stopD ?_ | refine stopW ?_ | refine stopG ?_ | refine stopC ?_ | refine stopR ?_))))
    (all_goals (first | omega | contradiction | skip))
    focus (refine Done'.mk ⟨(i + 1, b ++ wk), ⟨by simp only; omega, by simp only [List.length_append]; omega, by simp only [List.length_append]; omega, by simp only [List.append_assoc]; exact g3⟩, ?_, KeptA.of [(17, 10), (18, 11)] rfl rfl (by repeat' (first | exact trivial | refine And.intro rfl ?_)) rfl ?_ ?_⟩; (first | omega | (simp only; omega)); all_goals (repeat' (first | exact trivial | (refine And.intro ?_ ?_) | (refine Exists.intro _ (And.intro rfl ?_)) | (refine RenO.opt ?_) | (refine RenO.toOpt ?_) | (refine RenO.cells ?_) | exact RenO.defs | exact RenL.nil | (refine RenL.cons ?_ ?_) | (first | (first | (rw [hlo]; exact RenO.loop (by repeat' (first | exact RenL.nil | exact RenV.junk | exact RenV.ptrL (Nat.le_of_ble_eq_true rfl) | refine RenL.cons ?_ ?_)) (.inl ⟨Nat.le_of_ble_eq_true rfl, rfl⟩)) | exact RenL.eq hsn.symm (nsR_nl _) | exact RenL.eq hsd.symm (dsR_nl _) | exact RenL.of (dsR_nl _) | exact RenL.of (nsR_nl _) | exact RenV.eq (scI_eq (by omega)) (nameless_sc _)) | (with_reducible exact RenV.sc) | exact RenV.gsN | exact RenV.gsZ | exact RenV.gsL (by decide) | exact RenV.slL (by decide) | ((first | refine RenV.gsE (by (first | exact List.Mem.head _ | exact List.Mem.tail _ (List.Mem.head _) | exact List.Mem.tail _ (List.Mem.tail _ (List.Mem.head _)) | (simp; done))) ?_ | refine RenV.eq (scI_eq ?_) (nameless_sc _)); (first | rfl | omega | (simp only [List.length_append, List.length_cons, List.length_nil, List.length_map, List.length_take, List.length_drop] <;> omega) | (simp only <;> omega) | (simp <;> omega))) | exact RenV.undef) | (with_unfolding_all exact (rfl : (_ : VObj) = _)))))
  · obtain rfl : i = ks.length := by omega
    rw [List.drop_length, walkL, List.append_nil] at g3
    subst g3
    (repeat' (first | with_reducible refine And.intro ?_ ?_ | ((with_reducible intro hc); (try simp only [zA, zB, zC, zD, zE, zF, zG, zH, zI, zJ, zK, zL, zM, zN, zO, zP, zQ, zR, zS, zT, zU, zV, zW] at hc); (first | (exact absurd rfl hc) | (exact absurd trivial hc) | (exfalso; omega) | skip)) | exact Is.mk rfl rfl | ((conv => whnf); first | with_reducible refine And.intro ?_ ?_ | with_reducible intro hx | exact Is.mk rfl rfl | (with_reducible first | apply Val.via | apply ValH.via) | refine ifB_intro ?_ ?_ | refine xA (by omega) ?_ | ((refine xB ?_); intro kw hk1 hk2) | refine xC (by omega) ?_ | refine xD ?_ | refine xE (by omega) ?_ | refine xF (by omega) ?_ | refine xG ?_ | refine xH ?_ | refine xI (by omega) ?_ | refine xJ (by omega) ?_ | (with_reducible refine stopA ?_) | refine Exists.intro _ (And.intro (by (first | exact vat_nd rfl rfl | exact vat_rowsN hk rfl | exact vat_of rfl rfl rfl | rfl)) ?_) | refine GOp.drawn (by rfl) (by rfl) (Nat.le_of_ble_eq_true (by rfl)) (by rfl) | refine GOp.via (by rfl) ?_ | refine GWP.drawY mixed _ (by kernel_rfl) (by rfl) ?_ | fail | (with_reducible first | refine stopO ?_ | refine stopE ?_ | refine stopD ?_ | refine stopW ?_ | refine stopG ?_ | refine stopC ?_ | refine stopR ?_))))
    (all_goals (first | omega | contradiction | skip))
    subst hlo
    all_goals exact Done'.mk ⟨rfl, (by repeat' (first | exact trivial | refine And.intro rfl ?_)), rfl⟩
end Go.Proofs.YtnmjdjldbloefaaGreatDoor

