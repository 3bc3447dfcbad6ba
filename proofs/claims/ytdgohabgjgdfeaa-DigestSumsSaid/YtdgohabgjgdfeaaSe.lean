/- The document's constants of the sum, walked. -/
import Derived.Test.YtdgohabgjgdfeaaSb
import Derived.Test.YtdgohabgjgdfeaaSd
namespace Go.Proofs.Ytdgohabgjgdfeaa
open Go Go.RowKit
set_option linter.unusedSimpArgs false
set_option linter.unusedVariables false
set_option maxRecDepth 100000
set_option maxHeartbeats 1000000
theorem GOp.stN {o : Oper} {ts : List VV} {H : Heap} {K : VV → Heap → Prop} {b : Nat} {us vs : List VV} {a x : Operand} {t : TypeId} {n : Nat} (hz : vsize Try.prog t = some n) (ho : o.op = .store t a x) (ha : veval ts a = .ptr b 0) (hx : veval ts x = .ag vs) (hg : H.get b = some (.cells true us)) (hu : us.length = n) (hv : vs.length = n) (h1 : vs.all VV.one = true) (k : K (.tp []) (H.set b (.cells true vs))) : GOp Try.prog o ts H K := by
  refine .via (vop_store ho (H' := H.set b (.cells true vs)) ?_) k
  have h2 : Nat.ble (0 + vs.length) us.length = true := Nat.ble_eq_true_of_le (by omega)
  have h3 : Nat.beq vs.length n = true := by rw [hv]; exact Nat.beq_refl _
  rw [ha, hx]
  simp only [vstore, hg, cellsOf, h1, hz, h3, h2, Bool.and_self, setRun_full (hu.trans hv.symm)]
theorem rturn_call (x : Nat) (hx : x < 4294967296) (a : Nat) (h1 : 1 ≤ a) (h2 : a ≤ 31) (H : Heap) : VCall Try.prog 48 [wV x, iV a] H (fun v K => v = wV (rl x (32 - a)) ∧ K = H) := by
  refine VCall.pure (by intro v hv; simp at hv; rcases hv with rfl | rfl <;> exact nameless_sc _) (nameless_sc _) ?_
  refine VCall.go Try.func48 rfl ?_
  repeat' (first | (with_reducible refine And.intro ?_ ?_) | ((with_reducible intro hc); (try simp only [leZ_eq, ltZ_eq, eqZ_eq, str_size, str_list, str_nil, List.toList_toArray, decide_eq_true_eq, decide_eq_false_iff_not, beq_iff_eq, bne_iff_ne, beq_eq_false_iff_ne, bne_eq_false_iff_eq, ne_eq, Bool.not_eq_true', Bool.not_eq_false', Bool.not_true, Bool.not_false, gt_iff_lt, ge_iff_le, Int.not_lt, Int.not_le, Decidable.not_not] at hc); (first | (exact absurd rfl hc) | (exact absurd trivial hc) | (exfalso; omega) | skip)) | (exact Is.mk rfl rfl) | ((conv => whnf); first | (with_reducible refine And.intro ?_ ?_) | (with_reducible intro hx) | (exact Is.mk rfl rfl) | (with_reducible apply Val.via) | (with_reducible apply ValH.via) | (refine ifB_intro (fun hc => ?_) (fun hc => ?_) <;> (try simp only [leZ_eq, ltZ_eq, eqZ_eq, str_size, str_list, str_nil, List.toList_toArray, decide_eq_true_eq, decide_eq_false_iff_not, beq_iff_eq, bne_iff_ne, beq_eq_false_iff_ne, bne_eq_false_iff_eq, ne_eq, Bool.not_eq_true', Bool.not_eq_false', Bool.not_true, Bool.not_false, gt_iff_lt, ge_iff_le, Int.not_lt, Int.not_le, Decidable.not_not] at hc) <;> (first | (exact absurd rfl hc) | (exact absurd trivial hc) | (exfalso; omega) | skip)) | (refine GAr.i64 (by omega) ?_) | ((refine GAr.i64w ?_); intro kw hk1 hk2) | (refine GAr.u8s (by omega) ?_) | (refine GAr.u8 ?_) | (refine GAr.u64s (by omega) ?_) | (refine GAr.u32s (by omega) ?_) | (refine GAr.u64 ?_) | (refine GAr.u32 ?_) | (refine GQuo.i64 (by omega) ?_) | (refine GRem.pos (by omega) ?_) | (with_reducible refine stopA ?_) | (refine Exists.intro _ (And.intro (by rfl) ?_)) | (refine GOp.drawn (by rfl) (by rfl) (Nat.le_of_ble_eq_true (by rfl)) (by rfl)) | (refine GOp.via (by rfl) ?_) | (refine GWP.drawY mixed _ (by kernel_rfl) (by rfl) ?_) | fail | (with_reducible refine stopO ?_) | (with_reducible refine stopE ?_) | (with_reducible refine stopD ?_) | (with_reducible refine stopW ?_) | (with_reducible refine stopG ?_) | (with_reducible refine stopC ?_) | (with_reducible refine stopR ?_)))
  all_goals (first | omega | skip)
  refine Done'.mk ?_
  refine scI_eq (x := bitZ .or .u32 (shrZ .u32 (x : Int) (a : Int)) (shlZ .u32 (x : Int) (32 - (a : Int)))) ?_
  rw [show (32 : Int) - (a : Int) = ((32 - a : Nat) : Int) by omega, shl_u32 (by omega), shr_u32 (by omega), or_u32 (div_lt32 hx _) (Nat.mod_lt _ (by omega)), Nat.or_comm]
  unfold rl
  rw [show 32 - (32 - a) = a by omega]
theorem roots3_at' : ∀ i : Fin 64, rootN (prT.getD i.val 0) 3 = kT.getD i.val 0 := by decide +kernel
theorem roots2_at' : ∀ i : Fin 8, rootN (prT.getD i.val 0) 2 = h0T.list.getD i.val 0 := by decide +kernel
theorem prT_at' : ∀ i : Fin 64, prT[i.val]? = some (prT.getD i.val 0) ∧ prT.getD i.val 0 < 65536 := by decide +kernel
theorem kT_next' : ∀ i : Fin 64, kT.take (i.val + 1) = kT.take i.val ++ [kT.getD i.val 0] := by decide +kernel
theorem hT_next' : ∀ i : Fin 8, h0T.list.take (i.val + 1) = h0T.list.take i.val ++ [h0T.list.getD i.val 0] := by decide +kernel
/-- So many words of a list, and noughts. -/
def wz (l : List Nat) (n i : Nat) : List VV := (l.take i).map wV ++ List.replicate (n - i) (wV 0)
theorem wz_len {l : List Nat} {n i : Nat} (h : i ≤ n) (hl : l.length = n) : (wz l n i).length = n := by simp [wz]; omega
theorem wz_nameless (l : List Nat) (n i : Nat) : ∀ v ∈ wz l n i, Nameless v := fun v hv => by
  rcases List.mem_append.1 hv with hv | hv
  · exact nameless_map nameless_wV _ v hv
  · rw [(List.mem_replicate.1 hv).2]; exact nameless_wV 0
theorem wz_next {l : List Nat} {n i x : Nat} (h : i < n) (hl : l.length = n) (hn : l.take (i + 1) = l.take i ++ [x]) : (wz l n i).set i (wV x) = wz l n (i + 1) := by
  unfold wz
  have h1 : ((l.take i).map wV).length = i := by simp; omega
  rw [List.set_append_right _ _ (by omega), h1, Nat.sub_self, hn]
  obtain ⟨k, hk⟩ : ∃ k, n - i = k + 1 := ⟨n - i - 1, by omega⟩
  rw [hk, List.replicate_succ, List.set_cons_zero, show n - (i + 1) = k by omega]
  simp
theorem wz_end {l : List Nat} {n : Nat} (hl : l.length = n) : wz l n n = l.map wV := by
  unfold wz
  rw [List.take_of_length_le (by omega), Nat.sub_self]
  simp
theorem vstore_wz {H : Heap} {b q i : Nat} {vs : List VV} {z : Int} {x : Nat} (hg : H.get b = some (.cells true vs)) (hi : q = i) (hq : i < vs.length) (hz : z = (x : Int)) : vstore Try.prog 73 (.ptr b q) (.sc (.int .u32 z)) H = some (H.set b (.cells true (vs.set i (wV x)))) := by
  subst hi hz
  have hz : vsize Try.prog 73 = some 1 := by kernel_rfl
  have h1 : Nat.ble (q + 1) vs.length = true := Nat.ble_eq_true_of_le hq
  simp only [vstore, hg, cellsOf, hz, List.length_singleton, Nat.beq_refl, h1, Bool.and_self, setRun]
  rfl
end Go.Proofs.Ytdgohabgjgdfeaa
