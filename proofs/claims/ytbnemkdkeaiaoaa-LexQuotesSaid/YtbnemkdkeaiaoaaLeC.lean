/- lex.Quote. -/
import Derived.Test.YtbnemkdkeaiaoaaLeB
import Derived.Test.YtbnemkdkeaiaoaaLe8
namespace Go.Proofs.Ytbnemkdkeaiaoaa
open Go Go.RowKit
set_option linter.unusedSimpArgs false
set_option linter.unusedVariables false
set_option maxRecDepth 100000
set_option maxHeartbeats 8000000
theorem replE_call (s : List UInt8) (hs : s.length ≤ 1500) : VCall Try.prog 11 [.ptr 0 0, strV s] (hpA 0 0 (.sc .nilIface) (.sl 1 0 6 none 1)) (fun v K => v = strV (escL s) ∧ K = ⟨[], 2⟩) := by
  refine VCall.post (Q := fun v K => v = strV (escL s) ∧ K.next ≤ 2) ((replace_call s hs).mono fun v K e => ⟨e.1, by rw [e.2]; exact Nat.le_refl _⟩) ?_
  rintro v K ⟨rfl, h⟩
  exact ⟨strV (escL s), ⟨[], 2⟩, ⟨rfl, rfl⟩, fun _ _ _ _ h => h, h, fun b x hb => by cases hb⟩
theorem nameless_oldL : ∀ v ∈ oldL, Nameless v := nameless_old
theorem repAt (s : List UInt8) (hs : s.length ≤ 1500) {H : Heap} {b m : Nat} (hb : H.get b = some (.cells true (repV 0 0 (.sc .nilIface) (.sl m 0 6 none 1)))) (hm : H.get m = some (.cells true oldL)) (hbm : Nat.beq m b = false) :
    VCall Try.prog 11 [.ptr b 0, strV s] H (fun v K => v = strV (escL s) ∧ K = ⟨restO [b, m] H.objs, H.next⟩) := by
  have hmb : m ≠ b := fun e => by rw [e, Nat.beq_refl] at hbm; cases hbm
  refine VCall.live fun hlive => ?_
  have hbl := hlive b _ hb
  have hml := hlive m _ hm
  have hbm' : Nat.beq b m = false := beq_ne (fun e => hmb e.symm)
  refine VCall.at (n1 := 2) (O1 := (hpA 0 0 (.sc .nilIface) (.sl 1 0 6 none 1)).objs) [b, m] [(b, 0), (m, 1)] ?_ ⟨⟨_, (keepO_get (memN_iff.2 (by simp))).trans hb, .cells (.cons (.of (nameless_sc _)) (.cons (.of (nameless_sc _)) (.cons (.of (nameless_sc _)) (.cons (.of (nameless_sc _)) (.cons (.sl (by simp)) .nil)))))⟩, ⟨_, (keepO_get (memN_iff.2 (by simp))).trans hm, .cells (.of nameless_old)⟩, trivial⟩ (.cons (.ptr (by simp)) (.cons (.of (nameless_strV _)) .nil)) (replE_call s hs) ?_
  · show (wfR 0 2 [(b, 0), (m, 1)] && nodupB [b, m] && _) = true
    simp only [nodupB, List.all_cons, List.all_nil, hbm']
    rfl
  · rintro v K ⟨rfl, rfl⟩
    have e1 : Nat.blt b H.next = true := blt_iff.2 hbl
    have e2 : Nat.blt m H.next = true := blt_iff.2 hml
    have e7 : ∀ n, Nat.ble 0 n = true := fun n => Nat.ble_eq_true_of_le (Nat.zero_le n)
    refine ⟨strV (escL s), [], ⟨?_, .of (nameless_strV _), trivial⟩, rfl, rfl, rfl⟩
    show (wfR 0 (H.next + 0) [(0, b), (1, m)] && true && true && true) = true
    simp only [wfR, srcN, e1, e2, e7, hbm, Nat.add_zero]
    rfl
theorem quote_call (t : List UInt8) (ht : t.length ≤ 1500) (H : Heap) : VCall Try.prog 6 [strV t] H (fun v K => v = strV (quoteB t) ∧ K = H) := by
  refine VCall.pure (by simp [nameless_strV]) (nameless_strV _) ?_
  have hel := escL_len t
  refine VCall.go Try.func6 rfl ?_
  (repeat' (first | with_reducible refine And.intro ?_ ?_ | ((with_reducible intro hc); (try simp only [zA, zB, zC, zD, zE, zF, zG, zH, zI, zJ, zK, zL, zM, zN, zO, zP, zQ, zR, zS, zT, zU, zV, zW] at hc); (first | (exact absurd rfl hc) | (exact absurd trivial hc) | (exfalso; omega) | skip)) | exact Is.mk rfl rfl | ((conv => whnf); first | with_reducible refine And.intro ?_ ?_ | with_reducible intro hx | exact Is.mk rfl rfl | (with_reducible first | apply Val.via | apply ValH.via) | refine ifB_intro ?_ ?_ | refine xA (by omega) ?_ | ((refine xB ?_); intro kw hk1 hk2) | refine xC (by omega) ?_ | refine xD ?_ | refine xE (by omega) ?_ | refine xF (by omega) ?_ | refine xG ?_ | refine xH ?_ | refine xI (by omega) ?_ | refine xJ (by omega) ?_ | (with_reducible refine stopA ?_) | refine Exists.intro _ (And.intro (by (first | exact vat_of rfl rfl rfl | rfl)) ?_) | refine GOp.drawn (by rfl) (by rfl) (Nat.le_of_ble_eq_true (by rfl)) (by rfl) | refine GOp.via (by rfl) ?_ | refine GWP.drawY mixed _ (by kernel_rfl) (by rfl) ?_ | (first | (refine GCall.mk (VCall.inl Try.func10 rfl ?_)) | (refine GCall.mk ((repAt t ht rfl rfl rfl).mono ?_); rintro _ _ ⟨rfl, rfl⟩)) | (with_reducible first | refine stopO ?_ | refine stopE ?_ | refine stopD ?_ | refine stopW ?_ | refine stopG ?_ | refine stopC ?_ | refine stopR ?_))))
  (all_goals (first | omega | contradiction | (exfalso; have hmx : IntKind.i64.max = 9223372036854775807 := rfl; rw [hmx] at hx; simp [ByteArray.size_append, ByteArray.size] at hx; omega) | skip))
  all_goals exact Done'.mk (by rw [app_strQ]; exact catQ ([34] ++ escL t) [34])
end Go.Proofs.Ytbnemkdkeaiaoaa
