import Derived.Test.YtbnemkdkeaiaoaaG6
import Derived.Test.YtbnemkdkeaiaoaaGa
import Derived.Test.YtbnemkdkeaiaoaaG9
import Derived.Test.YtbnemkdkeaiaoaaE3
import Derived.ProofKit
import Derived.OpenShut
import Derived.Test.YtbnemkdkeaiaoaaRows
import Derived.ShutString
import Derived.ChangeOld
import Derived.Below
import Derived.Lib.SmallJoins
/- The statement LexBlanks, walked. -/
namespace Go.Proofs.Ytbnemkdkeaiaoaa
open Go Go.RowKit
set_option linter.unusedSimpArgs false
set_option linter.unusedVariables false
set_option maxRecDepth 100000
set_option maxHeartbeats 8000000
theorem digits_call (t : List UInt8) (ht : t.length ≤ 100000) (H : Heap) : VCall Try.prog 9 [roB t] H (fun x K => x = iV (runB digB t) ∧ K = H) := by
  generalize hR : runB digB t = R
  refine VCall.pure (by simp [nameless_roB]) (nameless_sc _) ?_
  refine VCall.go Try.func9 rfl ?_
  (repeat' (first | with_reducible refine And.intro ?_ ?_ | ((with_reducible intro hc); (try simp only [zA, zB, zC, zD, zE, zF, zG, zH, zI, zJ, zK, zL, zM, zN, zO, zP, zQ, zR, zS, zT, zU, zV, zW] at hc); (first | (exact absurd rfl hc) | (exact absurd trivial hc) | (exfalso; omega) | skip)) | exact Is.mk rfl rfl | ((conv => whnf); first | with_reducible refine And.intro ?_ ?_ | with_reducible intro hx | exact Is.mk rfl rfl | (with_reducible first | apply Val.via | apply ValH.via) | refine ifB_intro ?_ ?_ | refine xA (by omega) ?_ | ((refine xB ?_); intro kw hk1 hk2) | refine xC (by omega) ?_ | refine xD ?_ | refine xE (by omega) ?_ | refine xF (by omega) ?_ | refine xG ?_ | refine xH ?_ | refine xI (by omega) ?_ | refine xJ (by omega) ?_ | (with_reducible refine stopA ?_) | refine Exists.intro _ (And.intro (by (first | exact vat_of vagg_u8 (map_at hb) (mul1 rfl rfl) | exact vat_of rfl rfl rfl | rfl)) ?_) | refine GOp.drawn (by rfl) (by rfl) (Nat.le_of_ble_eq_true (by rfl)) (by rfl) | refine GOp.via (by rfl) ?_ | refine GWP.drawY mixed _ (by kernel_rfl) (by rfl) ?_ | fail | (with_reducible first | refine stopO ?_ | refine stopE ?_ | refine stopD ?_ | refine stopW ?_ | refine stopG ?_ | refine stopC ?_ | refine stopR ?_))))
  (all_goals (first | omega | contradiction | exact cut_mid rfl (by omega) | (exfalso; have hmx : IntKind.i64.max = 9223372036854775807 := rfl; rw [hmx] at hx; simp [ByteArray.size_append, ByteArray.size] at hx; omega) | skip))
  (refine GWP'.mk (GWP.loopB [] (fun (i : Nat) => i ≤ t.length ∧ R = i + runB digB (t.drop i)) (fun i => [(3, iV i)]) (fun _ => []) 0 (fun i => t.length - i) 0 ⟨Nat.zero_le _, by rw [← hR]; simp⟩ ?_); (conv => whnf); refine And.intro ?_ ?_)
  · focus (refine KeptA.of [] rfl rfl (by repeat' (first | exact trivial | refine And.intro rfl ?_)) rfl ?_ ?_; all_goals (repeat' (first | exact trivial | (refine And.intro ?_ ?_) | (refine Exists.intro _ (And.intro rfl ?_)) | (refine RenO.opt ?_) | (refine RenO.toOpt ?_) | (refine RenO.cells ?_) | exact RenO.defs | exact RenL.nil | (refine RenL.cons ?_ ?_) | (first | fail | (with_reducible exact RenV.sc) | exact RenV.gsN | exact RenV.gsZ | exact RenV.gsL (by decide) | exact RenV.slL (by decide) | ((first | refine RenV.gsE (by (first | exact List.Mem.head _ | exact List.Mem.tail _ (List.Mem.head _) | exact List.Mem.tail _ (List.Mem.tail _ (List.Mem.head _)) | (simp; done))) ?_ | refine RenV.eq (scI_eq ?_) (nameless_sc _)); (first | rfl | omega | (simp only [List.length_append, List.length_cons, List.length_nil, List.length_map, List.length_take, List.length_drop] <;> omega) | (simp only <;> omega) | (simp <;> omega))) | exact RenV.undef) | (with_unfolding_all exact (rfl : (_ : VObj) = _)))))
  rintro i ⟨g1, g2⟩
  simp only at g1 g2 ⊢
  by_cases hil : i < t.length
  · obtain ⟨c, hb⟩ : ∃ c, t[i]? = some c := ⟨_, List.getElem?_eq_getElem hil⟩
    have hcl : c.toNat < 256 := c.toNat_lt
    rw [drop_at hb, runB] at g2
    by_cases hd : 48 ≤ c.toNat ∧ c.toNat ≤ 57
    · rw [if_pos (by simp [digB, hd])] at g2
      obtain ⟨hd1, hd2⟩ := hd
      (repeat' (first | with_reducible refine And.intro ?_ ?_ | ((with_reducible intro hc); (try simp only [zA, zB, zC, zD, zE, zF, zG, zH, zI, zJ, zK, zL, zM, zN, zO, zP, zQ, zR, zS, zT, zU, zV, zW] at hc); (first | (exact absurd rfl hc) | (exact absurd trivial hc) | (exfalso; omega) | skip)) | exact Is.mk rfl rfl | ((conv => whnf); first | with_reducible refine And.intro ?_ ?_ | with_reducible intro hx | exact Is.mk rfl rfl | (with_reducible first | apply Val.via | apply ValH.via) | refine ifB_intro ?_ ?_ | refine xA (by omega) ?_ | ((refine xB ?_); intro kw hk1 hk2) | refine xC (by omega) ?_ | refine xD ?_ | refine xE (by omega) ?_ | refine xF (by omega) ?_ | refine xG ?_ | refine xH ?_ | refine xI (by omega) ?_ | refine xJ (by omega) ?_ | (with_reducible refine stopA ?_) | refine Exists.intro _ (And.intro (by (first | exact vat_of vagg_u8 (map_at hb) (mul1 rfl rfl) | exact vat_of rfl rfl rfl | rfl)) ?_) | refine GOp.drawn (by rfl) (by rfl) (Nat.le_of_ble_eq_true (by rfl)) (by rfl) | refine GOp.via (by rfl) ?_ | refine GWP.drawY mixed _ (by kernel_rfl) (by rfl) ?_ | fail | (with_reducible first | refine stopO ?_ | refine stopE ?_ | refine stopD ?_ | refine stopW ?_ | refine stopG ?_ | refine stopC ?_ | refine stopR ?_))))
      (all_goals (first | omega | contradiction | exact cut_mid rfl (by omega) | (exfalso; have hmx : IntKind.i64.max = 9223372036854775807 := rfl; rw [hmx] at hx; simp [ByteArray.size_append, ByteArray.size] at hx; omega) | skip))
      focus (refine Done'.mk ⟨i + 1, ⟨by omega, by omega⟩, ?_, KeptA.of [] rfl rfl (by repeat' (first | exact trivial | refine And.intro rfl ?_)) rfl ?_ ?_⟩; (first | omega | (simp only; omega)); all_goals (repeat' (first | exact trivial | (refine And.intro ?_ ?_) | (refine Exists.intro _ (And.intro rfl ?_)) | (refine RenO.opt ?_) | (refine RenO.toOpt ?_) | (refine RenO.cells ?_) | exact RenO.defs | exact RenL.nil | (refine RenL.cons ?_ ?_) | (first | exact RenV.eq (scI_eq (by omega)) (nameless_sc _) | (with_reducible exact RenV.sc) | exact RenV.gsN | exact RenV.gsZ | exact RenV.gsL (by decide) | exact RenV.slL (by decide) | ((first | refine RenV.gsE (by (first | exact List.Mem.head _ | exact List.Mem.tail _ (List.Mem.head _) | exact List.Mem.tail _ (List.Mem.tail _ (List.Mem.head _)) | (simp; done))) ?_ | refine RenV.eq (scI_eq ?_) (nameless_sc _)); (first | rfl | omega | (simp only [List.length_append, List.length_cons, List.length_nil, List.length_map, List.length_take, List.length_drop] <;> omega) | (simp only <;> omega) | (simp <;> omega))) | exact RenV.undef) | (with_unfolding_all exact (rfl : (_ : VObj) = _)))))
    · rw [if_neg (by simp [digB]; omega)] at g2
      obtain rfl : R = i := by omega
      by_cases hd1 : 48 ≤ c.toNat
      · have hd2 : ¬ c.toNat ≤ 57 := fun h => hd ⟨hd1, h⟩
        (repeat' (first | with_reducible refine And.intro ?_ ?_ | ((with_reducible intro hc); (try simp only [zA, zB, zC, zD, zE, zF, zG, zH, zI, zJ, zK, zL, zM, zN, zO, zP, zQ, zR, zS, zT, zU, zV, zW] at hc); (first | (exact absurd rfl hc) | (exact absurd trivial hc) | (exfalso; omega) | skip)) | exact Is.mk rfl rfl | ((conv => whnf); first | with_reducible refine And.intro ?_ ?_ | with_reducible intro hx | exact Is.mk rfl rfl | (with_reducible first | apply Val.via | apply ValH.via) | refine ifB_intro ?_ ?_ | refine xA (by omega) ?_ | ((refine xB ?_); intro kw hk1 hk2) | refine xC (by omega) ?_ | refine xD ?_ | refine xE (by omega) ?_ | refine xF (by omega) ?_ | refine xG ?_ | refine xH ?_ | refine xI (by omega) ?_ | refine xJ (by omega) ?_ | (with_reducible refine stopA ?_) | refine Exists.intro _ (And.intro (by (first | exact vat_of vagg_u8 (map_at hb) (mul1 rfl rfl) | exact vat_of rfl rfl rfl | rfl)) ?_) | refine GOp.drawn (by rfl) (by rfl) (Nat.le_of_ble_eq_true (by rfl)) (by rfl) | refine GOp.via (by rfl) ?_ | refine GWP.drawY mixed _ (by kernel_rfl) (by rfl) ?_ | fail | (with_reducible first | refine stopO ?_ | refine stopE ?_ | refine stopD ?_ | refine stopW ?_ | refine stopG ?_ | refine stopC ?_ | refine stopR ?_))))
        (all_goals (first | omega | contradiction | exact cut_mid rfl (by omega) | (exfalso; have hmx : IntKind.i64.max = 9223372036854775807 := rfl; rw [hmx] at hx; simp [ByteArray.size_append, ByteArray.size] at hx; omega) | skip))
        all_goals exact Done'.mk rfl
      · (repeat' (first | with_reducible refine And.intro ?_ ?_ | ((with_reducible intro hc); (try simp only [zA, zB, zC, zD, zE, zF, zG, zH, zI, zJ, zK, zL, zM, zN, zO, zP, zQ, zR, zS, zT, zU, zV, zW] at hc); (first | (exact absurd rfl hc) | (exact absurd trivial hc) | (exfalso; omega) | skip)) | exact Is.mk rfl rfl | ((conv => whnf); first | with_reducible refine And.intro ?_ ?_ | with_reducible intro hx | exact Is.mk rfl rfl | (with_reducible first | apply Val.via | apply ValH.via) | refine ifB_intro ?_ ?_ | refine xA (by omega) ?_ | ((refine xB ?_); intro kw hk1 hk2) | refine xC (by omega) ?_ | refine xD ?_ | refine xE (by omega) ?_ | refine xF (by omega) ?_ | refine xG ?_ | refine xH ?_ | refine xI (by omega) ?_ | refine xJ (by omega) ?_ | (with_reducible refine stopA ?_) | refine Exists.intro _ (And.intro (by (first | exact vat_of vagg_u8 (map_at hb) (mul1 rfl rfl) | exact vat_of rfl rfl rfl | rfl)) ?_) | refine GOp.drawn (by rfl) (by rfl) (Nat.le_of_ble_eq_true (by rfl)) (by rfl) | refine GOp.via (by rfl) ?_ | refine GWP.drawY mixed _ (by kernel_rfl) (by rfl) ?_ | fail | (with_reducible first | refine stopO ?_ | refine stopE ?_ | refine stopD ?_ | refine stopW ?_ | refine stopG ?_ | refine stopC ?_ | refine stopR ?_))))
        (all_goals (first | omega | contradiction | exact cut_mid rfl (by omega) | (exfalso; have hmx : IntKind.i64.max = 9223372036854775807 := rfl; rw [hmx] at hx; simp [ByteArray.size_append, ByteArray.size] at hx; omega) | skip))
        all_goals exact Done'.mk rfl
  · obtain rfl : i = t.length := by omega
    rw [List.drop_length, runB] at g2
    obtain rfl : R = t.length := by omega
    (repeat' (first | with_reducible refine And.intro ?_ ?_ | ((with_reducible intro hc); (try simp only [zA, zB, zC, zD, zE, zF, zG, zH, zI, zJ, zK, zL, zM, zN, zO, zP, zQ, zR, zS, zT, zU, zV, zW] at hc); (first | (exact absurd rfl hc) | (exact absurd trivial hc) | (exfalso; omega) | skip)) | exact Is.mk rfl rfl | ((conv => whnf); first | with_reducible refine And.intro ?_ ?_ | with_reducible intro hx | exact Is.mk rfl rfl | (with_reducible first | apply Val.via | apply ValH.via) | refine ifB_intro ?_ ?_ | refine xA (by omega) ?_ | ((refine xB ?_); intro kw hk1 hk2) | refine xC (by omega) ?_ | refine xD ?_ | refine xE (by omega) ?_ | refine xF (by omega) ?_ | refine xG ?_ | refine xH ?_ | refine xI (by omega) ?_ | refine xJ (by omega) ?_ | (with_reducible refine stopA ?_) | refine Exists.intro _ (And.intro (by (first | exact vat_of vagg_u8 (map_at hb) (mul1 rfl rfl) | exact vat_of rfl rfl rfl | rfl)) ?_) | refine GOp.drawn (by rfl) (by rfl) (Nat.le_of_ble_eq_true (by rfl)) (by rfl) | refine GOp.via (by rfl) ?_ | refine GWP.drawY mixed _ (by kernel_rfl) (by rfl) ?_ | fail | (with_reducible first | refine stopO ?_ | refine stopE ?_ | refine stopD ?_ | refine stopW ?_ | refine stopG ?_ | refine stopC ?_ | refine stopR ?_))))
    (all_goals (first | omega | contradiction | exact cut_mid rfl (by omega) | (exfalso; have hmx : IntKind.i64.max = 9223372036854775807 := rfl; rw [hmx] at hx; simp [ByteArray.size_append, ByteArray.size] at hx; omega) | skip))
    all_goals exact Done'.mk rfl
def B5 : VV := .ag [strV [32], strV [9], strV [10], strV [13, 10], strV [35, 32, 114, 101, 109, 97, 114, 107, 32, 10]]
theorem index5 {o : Oper} {ts : List VV} {H : Heap} {K : VV → Heap → Prop} {z : Int} {q i j : Nat} (ho : o.op = .index 33 (.tmp i) (.tmp j)) (h1 : veval ts (.tmp i) = B5) (h2 : veval ts (.tmp j) = .sc (.int .u64 z)) (hz : z = (q : Int)) (hq : q < 5) (k : K (strV (betL q)) H) : GOp' Try.prog o ts H K := by
  refine GOp'.via (v := strV (betL q)) (H' := H) ?_ k
  subst hz
  have hv : vindex Try.prog 33 B5 (.sc (.int .u64 (q : Int))) = some (strV (betL q)) := by
    obtain rfl | rfl | rfl | rfl | rfl : q = 0 ∨ q = 1 ∨ q = 2 ∨ q = 3 ∨ q = 4 := by omega
    all_goals rfl
  simp only [vop, ho, h1, h2, hv]
  rfl
theorem rowsG_at {l : List (Sg × Nat)} {i : Nat} {p : Sg × Nat} (h : l[i]? = some p) : (rowsG l).drop (i * 4) = sgV p.1 p.2 ++ rowsG (l.drop (i + 1)) := by
  induction l generalizing i with
  | nil => simp at h
  | cons a r ih =>
    cases i with
    | zero =>
      simp only [List.getElem?_cons_zero, Option.some.injEq] at h
      subst h
      rfl
    | succ i =>
      have := ih (i := i) (by simpa using h)
      rw [show (i + 1) * 4 = 4 + i * 4 by omega, ← List.drop_drop]
      exact this
theorem rowsG_get {l : List (Sg × Nat)} {i j : Nat} {p : Sg × Nat} {v : VV} (h : l[i]? = some p) (hv : (sgV p.1 p.2)[j]? = some v) : (rowsG l)[i * 4 + j]? = some v := by
  rw [← List.getElem?_drop, rowsG_at h]
  obtain ⟨hj, e⟩ := List.getElem?_eq_some_iff.1 hv
  rw [List.getElem?_append_left hj]
  exact hv
theorem vat_rowsG {l : List (Sg × Nat)} {i o : Nat} {p : Sg × Nat} (h : l[i]? = some p) (ho : o = i * 4) : vat Try.prog 31 (rowsG l) o = some (.ag (sgV p.1 p.2)) := by
  have h1 : vagg Try.prog 31 = some true := by kernel_rfl
  have h2 : vsize Try.prog 31 = some 4 := by kernel_rfl
  obtain ⟨hi, _⟩ := List.getElem?_eq_some_iff.1 h
  have h3 : Nat.ble (o + 4) (rowsG l).length = true := Nat.ble_eq_true_of_le (by rw [rowsG_len]; omega)
  subst ho
  simp only [vat, h1, h2, h3]
  rw [rowsG_at h]
  rfl
theorem rowsG_pre (l : List (Sg × Nat)) (n : Nat) : (rowsG l).take (n * 4) = rowsG (l.take n) := by
  induction l generalizing n with
  | nil => simp [rowsG]
  | cons a r ih =>
    cases n with
    | zero => simp [rowsG]
    | succ n =>
      have := ih n
      show (sgV a.1 a.2 ++ rowsG r).take _ = sgV a.1 a.2 ++ rowsG (r.take n)
      rw [List.take_append, ← this]
      congr 1
      · exact List.take_of_length_le (by simp [sgV]; omega)
      · congr 1
        simp only [sgV, List.length_cons, List.length_nil]
        omega
theorem vat_cutG {l : List (Sg × Nat)} {i o z1 z2 m kd nm a : Nat} {tx : List UInt8} (h : l.dropLast[i]? = some (⟨kd, tx, nm⟩, a)) (hm : m = l.length - 1) (hz1 : z1 = 4) (hz2 : z2 = 4) (ho : o = i * 4) : vat Try.prog 31 (((rowsG l).drop (0 * z1)).take ((m - 0) * z2)) o = some (.ag [iV kd, strV tx, iV nm, iV a]) := by
  subst hz1 hz2 hm
  rw [Nat.zero_mul, List.drop_zero, Nat.sub_zero, rowsG_pre, ← List.dropLast_eq_take]
  exact vat_rowsG h ho
theorem vbytes_mid {t : List UInt8} {a n z : Nat} {k : Int} (hk : k = (a : Int)) {m : Int} (hm : m = (a : Int) + (n : Int)) (hz : z = 1) : vbytes (((t.map bV).drop (k.toNat * z)).take ((m.toNat - k.toNat) * z)) = some ((t.drop a).take n) := by
  subst hk hm hz
  have e : (((a : Int) + (n : Int)).toNat - ((a : Int)).toNat) * 1 = n := by omega
  rw [e, Nat.mul_one, Int.toNat_natCast, ← List.map_drop, ← List.map_take]
  exact vbytes_map _
theorem cut_mid {t : List UInt8} {k m : Int} {z : Nat} (hz : z = 1) (hm : m.toNat ≤ t.length) : (((t.map bV).drop (k.toNat * z)).take ((m.toNat - k.toNat) * z)).length = m.toNat - k.toNat := by
  subst hz
  simp only [Nat.mul_one, List.length_take, List.length_drop, List.length_map]
  omega
theorem cat3 (a b c : List UInt8) : VV.sc (.string (((⟨a.toArray⟩ : ByteArray) ++ ⟨b.toArray⟩) ++ ⟨c.toArray⟩)) = strV (a ++ b ++ c) := by rw [app_strQ]; exact catQ (a ++ b) c
theorem signsV {w : List UInt8} (hw : w.length ≤ 50000) {H : Heap} {b n : Nat} {vs : List VV} (hg : H.get b = some (.cells true vs)) (hv : vs = w.map bV) (hn : n = w.length) : VCall Try.prog 7 [.sl b 0 n none 1] H (fun v K => v = sgsR (signsB w) ∧ K = H) := by
  refine VCall.viewed (args' := [roB w]) (.cons ?_ .nil) (signsG_call w hw) (fun v K e => e)
  subst hv hn
  have := View.sl (H := H) (b := b) (o := 0) (n := w.length) (z := 1) (c := none) hg (by simp) (nameless_map nameless_bV w)
  rw [List.drop_zero, Nat.mul_one, List.take_of_length_le (by simp)] at this
  unfold roB
  exact this
theorem signsB_long {w : List UInt8} (h : 4096 < w.length) : sgsR (signsB w) = .tp [.ro 0 [], iV 3] := by
  unfold signsB
  rw [if_pos h]
  rfl
theorem lexBlanks_walk (t : List UInt8) (k : Int) (hka : -9223372036854775808 ≤ k) (hkb : k ≤ 9223372036854775807) : VCall Try.prog 4 [roB t, iV k] ⟨[], 0⟩ (fun v _ => v = .sc (.bool true)) := by
  have hlv := fun H => lives19_call H
  by_cases hl : t.length ≤ 800
  · have hsg : ∀ H, VCall Try.prog 7 [roB t] H (fun v K => v = sgsR (signsB t) ∧ K = H) := fun H => VCall.viewed (args' := [roB t]) (.cons (View.of (nameless_roB t)) .nil) (signsG_call t (by omega)) (fun v K e => e)
    obtain ⟨q, hq, hq5⟩ : ∃ q : Nat, (k % 18446744073709551616) % 5 = (q : Int) ∧ q < 5 := ⟨((k % 18446744073709551616) % 5).toNat, by omega, by omega⟩
    cases hS : signsB t with
    | inl e =>
      have he := signsB_err hS
      rw [hS] at hsg
      simp only [sgsR] at hsg
      refine VCall.go Try.func4 rfl ?_
      (repeat' (first | with_reducible refine And.intro ?_ ?_ | ((with_reducible intro hc); (try simp only [zA, zB, zC, zD, zE, zF, zG, zH, zI, zJ, zK, zL, zM, zN, zO, zP, zQ, zR, zS, zT, zU, zV, zW] at hc); (first | (exact absurd rfl hc) | (exact absurd trivial hc) | (exfalso; omega) | skip)) | exact Is.mk rfl rfl | ((conv => whnf); first | with_reducible refine And.intro ?_ ?_ | with_reducible intro hx | exact Is.mk rfl rfl | (with_reducible first | apply Val.via | apply ValH.via) | refine ifB_intro ?_ ?_ | refine xA (by omega) ?_ | ((refine xB ?_); intro kw hk1 hk2) | refine xC (by omega) ?_ | refine xD ?_ | refine xE (by omega) ?_ | refine xF (by omega) ?_ | refine xG ?_ | refine xH ?_ | refine xI (by omega) ?_ | refine xJ (by omega) ?_ | (with_reducible refine stopA ?_) | refine Exists.intro _ (And.intro (by (first | exact vat_of vagg_u8 (map_at hb) (mul1 rfl rfl) | exact vat_of rfl rfl rfl | rfl)) ?_) | refine GOp.drawn (by rfl) (by rfl) (Nat.le_of_ble_eq_true (by rfl)) (by rfl) | refine GOp.via (by rfl) ?_ | refine GWP.drawY mixed _ (by kernel_rfl) (by rfl) ?_ | (first | (refine GCall.mk ((hlv _).mono ?_); rintro _ _ ⟨rfl, rfl⟩) | (refine GCall.mk ((hsg _).mono ?_); rintro _ _ ⟨rfl, rfl⟩)) | (with_reducible first | refine stopO ?_ | refine stopE ?_ | refine stopD ?_ | refine stopW ?_ | refine stopG ?_ | refine stopC ?_ | refine stopR ?_))))
      (all_goals (first | omega | contradiction | exact cut_mid rfl (by omega) | (exfalso; have hmx : IntKind.i64.max = 9223372036854775807 := rfl; rw [hmx] at hx; simp [ByteArray.size_append, ByteArray.size] at hx; omega) | skip))
      all_goals exact Done'.mk rfl
    | inr l =>
      rw [hS] at hsg
      simp only [sgsR] at hsg
      obtain ⟨p1, p2, p3, p4⟩ := blanks_law q t l hS
      have hb10 : (betL q).length ≤ 10 := by
        unfold betL
        split
        · simp
        · split
          · simp
          · split
            · simp
            · split <;> simp
      have hl0 : 1 ≤ l.length := by
        rcases Nat.eq_zero_or_pos l.length with h | h
        · exact absurd (List.eq_nil_of_length_eq_zero h) p1
        · exact h
      have hdl : l.dropLast.length = l.length - 1 := by simp
      have hol := outI_len (betL q) (l.dropLast.map (ownB t)) 1602 (fun x hx => by
        obtain ⟨p, hp, rfl⟩ := List.mem_map.1 hx
        have := (own_len (p3 p hp)).1
        omega)
      have hrow : (rowsG l).take ((l.length - 1) * 4) = rowsG l.dropLast := by rw [rowsG_pre, List.dropLast_eq_take]
      have hstep : ∀ i p, l.dropLast[i]? = some p → outI (betL q) (l.dropLast.map (ownB t)) (i + 1) = (if 0 < i then outI (betL q) (l.dropLast.map (ownB t)) i ++ betL q else outI (betL q) (l.dropLast.map (ownB t)) i) ++ ownB t p := fun i p hp => by
        rw [outI, List.getD_eq_getElem?_getD, List.getElem?_map, hp]
        rfl
      have hout0 : outI (betL q) (l.dropLast.map (ownB t)) 0 = betL q := rfl
      refine VCall.go Try.func4 rfl ?_
      (repeat' (first | with_reducible refine And.intro ?_ ?_ | ((with_reducible intro hc); (try simp only [zA, zB, zC, zD, zE, zF, zG, zH, zI, zJ, zK, zL, zM, zN, zO, zP, zQ, zR, zS, zT, zU, zV, zW] at hc); (first | (exact absurd rfl hc) | (exact absurd trivial hc) | (exfalso; omega) | skip)) | exact Is.mk rfl rfl | ((conv => whnf); first | with_reducible refine And.intro ?_ ?_ | with_reducible intro hx | exact Is.mk rfl rfl | (with_reducible first | apply Val.via | apply ValH.via) | refine ifB_intro ?_ ?_ | refine xA (by omega) ?_ | ((refine xB ?_); intro kw hk1 hk2) | refine xC (by omega) ?_ | refine xD ?_ | refine xE (by omega) ?_ | refine xF (by omega) ?_ | refine xG ?_ | refine xH ?_ | refine xI (by omega) ?_ | refine xJ (by omega) ?_ | (with_reducible refine stopA ?_) | refine Exists.intro _ (And.intro (by (first | exact vat_of vagg_u8 (map_at hb) (mul1 rfl rfl) | exact vat_of rfl rfl rfl | rfl)) ?_) | refine GOp.drawn (by rfl) (by rfl) (Nat.le_of_ble_eq_true (by rfl)) (by rfl) | refine GOp.via (by rfl) ?_ | refine GWP.drawY mixed _ (by kernel_rfl) (by rfl) ?_ | (first | (refine GCall.mk ((hlv _).mono ?_); rintro _ _ ⟨rfl, rfl⟩) | (refine GCall.mk ((hsg _).mono ?_); rintro _ _ ⟨rfl, rfl⟩)) | (with_reducible first | refine stopO ?_ | refine stopE ?_ | refine stopD ?_ | refine stopW ?_ | refine stopG ?_ | refine stopC ?_ | refine stopR ?_))))
      (all_goals (first | omega | contradiction | exact cut_mid rfl (by omega) | (exfalso; have hmx : IntKind.i64.max = 9223372036854775807 := rfl; rw [hmx] at hx; simp [ByteArray.size_append, ByteArray.size] at hx; omega) | skip))
      refine index5 rfl rfl rfl hq hq5 ?_
      generalize betL q = b at *
      generalize outI b (l.dropLast.map (ownB t)) = out at *
      have hob : ∀ i, i ≤ 1025 → (out i).length ≤ 2000000 := fun i hi => by
        have h1 := hol i
        have h2 := Nat.mul_le_mul hi (show b.length + 1602 ≤ 1612 by omega)
        omega
      (repeat' (first | with_reducible refine And.intro ?_ ?_ | ((with_reducible intro hc); (try simp only [zA, zB, zC, zD, zE, zF, zG, zH, zI, zJ, zK, zL, zM, zN, zO, zP, zQ, zR, zS, zT, zU, zV, zW] at hc); (first | (exact absurd rfl hc) | (exact absurd trivial hc) | (exfalso; omega) | skip)) | exact Is.mk rfl rfl | ((conv => whnf); first | with_reducible refine And.intro ?_ ?_ | with_reducible intro hx | exact Is.mk rfl rfl | (with_reducible first | apply Val.via | apply ValH.via) | refine ifB_intro ?_ ?_ | refine xA (by omega) ?_ | ((refine xB ?_); intro kw hk1 hk2) | refine xC (by omega) ?_ | refine xD ?_ | refine xE (by omega) ?_ | refine xF (by omega) ?_ | refine xG ?_ | refine xH ?_ | refine xI (by omega) ?_ | refine xJ (by omega) ?_ | (with_reducible refine stopA ?_) | refine Exists.intro _ (And.intro (by (first | exact vat_of vagg_u8 (map_at hb) (mul1 rfl rfl) | exact vat_of rfl rfl rfl | rfl)) ?_) | refine GOp.drawn (by rfl) (by rfl) (Nat.le_of_ble_eq_true (by rfl)) (by rfl) | refine GOp.via (by rfl) ?_ | refine GWP.drawY mixed _ (by kernel_rfl) (by rfl) ?_ | fail | (with_reducible first | refine stopO ?_ | refine stopE ?_ | refine stopD ?_ | refine stopW ?_ | refine stopG ?_ | refine stopC ?_ | refine stopR ?_))))
      (all_goals (first | omega | contradiction | exact cut_mid rfl (by omega) | (exfalso; have hmx : IntKind.i64.max = 9223372036854775807 := rfl; rw [hmx] at hx; simp [ByteArray.size_append, ByteArray.size] at hx; omega) | skip))
      (refine GWP'.mk (GWP.loopB [] (fun (i : Nat) => i ≤ l.dropLast.length) (fun i => [(8, strV (out i)), (45, iV i)]) (fun _ => []) 0 (fun i => l.dropLast.length - i) 0 (Nat.zero_le _) ?_); (conv => whnf); refine And.intro ?_ ?_)
      · focus (refine KeptA.of [] rfl rfl (by repeat' (first | exact trivial | refine And.intro rfl ?_)) rfl ?_ ?_; all_goals (repeat' (first | exact trivial | (refine And.intro ?_ ?_) | (refine Exists.intro _ (And.intro rfl ?_)) | (refine RenO.opt ?_) | (refine RenO.toOpt ?_) | (refine RenO.cells ?_) | exact RenO.defs | exact RenL.nil | (refine RenL.cons ?_ ?_) | (first | exact RenV.eq (congrArg strV hout0.symm) (nameless_sc _) | (with_reducible exact RenV.sc) | exact RenV.gsN | exact RenV.gsZ | exact RenV.gsL (by decide) | exact RenV.slL (by decide) | ((first | refine RenV.gsE (by (first | exact List.Mem.head _ | exact List.Mem.tail _ (List.Mem.head _) | exact List.Mem.tail _ (List.Mem.tail _ (List.Mem.head _)) | (simp; done))) ?_ | refine RenV.eq (scI_eq ?_) (nameless_sc _)); (first | rfl | omega | (simp only [List.length_append, List.length_cons, List.length_nil, List.length_map, List.length_take, List.length_drop] <;> omega) | (simp only <;> omega) | (simp <;> omega))) | exact RenV.undef) | (with_unfolding_all exact (rfl : (_ : VObj) = _)))))
      rintro i g1
      simp only at g1 ⊢
      have hoi := hob i (by omega)
      by_cases hil : i < l.dropLast.length
      · obtain ⟨p, hp⟩ := list_at hil
        have hok := own_len (p3 p (List.mem_of_getElem? hp))
        obtain ⟨⟨kd, tx, nm⟩, a⟩ := p
        dsimp only at hok
        obtain ⟨k1, k2, k3⟩ := hok
        by_cases hk3 : kd = 3
        · subst hk3
          have hown : ownB t (⟨3, tx, nm⟩, a) = (t.drop a).take (runB digB (t.drop a)) := rfl
          have hdg := fun H => digits_call (t.drop a) (by rw [List.length_drop]; omega) H
          have hdl := runB_le digB (t.drop a)
          rw [List.length_drop] at hdl
          generalize runB digB (t.drop a) = n at *
          have hxl : ((t.drop a).take n).length ≤ 800 := by rw [List.length_take, List.length_drop]; omega
          by_cases hi0 : 0 < i
          · have ho1 : out (i + 1) = out i ++ b ++ (t.drop a).take n := by rw [hstep i _ hp, if_pos hi0, hown]
            (repeat' (first | with_reducible refine And.intro ?_ ?_ | ((with_reducible intro hc); (try simp only [zA, zB, zC, zD, zE, zF, zG, zH, zI, zJ, zK, zL, zM, zN, zO, zP, zQ, zR, zS, zT, zU, zV, zW] at hc); (first | (exact absurd rfl hc) | (exact absurd trivial hc) | (exfalso; omega) | skip)) | exact Is.mk rfl rfl | ((conv => whnf); first | with_reducible refine And.intro ?_ ?_ | with_reducible intro hx | exact Is.mk rfl rfl | (with_reducible first | apply Val.via | apply ValH.via) | refine ifB_intro ?_ ?_ | refine xA (by omega) ?_ | ((refine xB ?_); intro kw hk1 hk2) | refine xC (by omega) ?_ | refine xD ?_ | refine xE (by omega) ?_ | refine xF (by omega) ?_ | refine xG ?_ | refine xH ?_ | refine xI (by omega) ?_ | refine xJ (by omega) ?_ | (with_reducible refine stopA ?_) | refine Exists.intro _ (And.intro (by (first | exact vbytes_mid (a := a) (n := n) rfl rfl rfl | exact vat_cutG hp (by omega) rfl rfl rfl | exact vat_of rfl rfl rfl | rfl)) ?_) | refine GOp.drawn (by rfl) (by rfl) (Nat.le_of_ble_eq_true (by rfl)) (by rfl) | refine GOp.via (by rfl) ?_ | refine GWP.drawY mixed _ (by kernel_rfl) (by rfl) ?_ | (refine GCall.mk (VCall.arg1 (roB_tail (n := a) rfl (by omega) rfl) ((hdg _).mono ?_)); rintro _ _ ⟨rfl, rfl⟩) | (with_reducible first | refine stopO ?_ | refine stopE ?_ | refine stopD ?_ | refine stopW ?_ | refine stopG ?_ | refine stopC ?_ | refine stopR ?_))))
            (all_goals (first | omega | contradiction | exact cut_mid rfl (by omega) | (exfalso; have hmx : IntKind.i64.max = 9223372036854775807 := rfl; rw [hmx] at hx; simp [ByteArray.size_append, ByteArray.size] at hx; omega) | skip))
            focus (refine Done'.mk ⟨i + 1, (by omega), ?_, KeptA.of [] rfl rfl (by repeat' (first | exact trivial | refine And.intro rfl ?_)) rfl ?_ ?_⟩; (first | omega | (simp only; omega)); all_goals (repeat' (first | exact trivial | (refine And.intro ?_ ?_) | (refine Exists.intro _ (And.intro rfl ?_)) | (refine RenO.opt ?_) | (refine RenO.toOpt ?_) | (refine RenO.cells ?_) | exact RenO.defs | exact RenL.nil | (refine RenL.cons ?_ ?_) | (first | (first | (refine RenV.eq ?_ (nameless_sc _); rw [ho1]; exact cat3 _ _ _) | exact RenV.eq (scI_eq (by omega)) (nameless_sc _)) | (with_reducible exact RenV.sc) | exact RenV.gsN | exact RenV.gsZ | exact RenV.gsL (by decide) | exact RenV.slL (by decide) | ((first | refine RenV.gsE (by (first | exact List.Mem.head _ | exact List.Mem.tail _ (List.Mem.head _) | exact List.Mem.tail _ (List.Mem.tail _ (List.Mem.head _)) | (simp; done))) ?_ | refine RenV.eq (scI_eq ?_) (nameless_sc _)); (first | rfl | omega | (simp only [List.length_append, List.length_cons, List.length_nil, List.length_map, List.length_take, List.length_drop] <;> omega) | (simp only <;> omega) | (simp <;> omega))) | exact RenV.undef) | (with_unfolding_all exact (rfl : (_ : VObj) = _)))))
          · obtain rfl : i = 0 := by omega
            have ho1 : out (0 + 1) = out 0 ++ (t.drop a).take n := by rw [hstep 0 _ hp, if_neg hi0, hown]
            (repeat' (first | with_reducible refine And.intro ?_ ?_ | ((with_reducible intro hc); (try simp only [zA, zB, zC, zD, zE, zF, zG, zH, zI, zJ, zK, zL, zM, zN, zO, zP, zQ, zR, zS, zT, zU, zV, zW] at hc); (first | (exact absurd rfl hc) | (exact absurd trivial hc) | (exfalso; omega) | skip)) | exact Is.mk rfl rfl | ((conv => whnf); first | with_reducible refine And.intro ?_ ?_ | with_reducible intro hx | exact Is.mk rfl rfl | (with_reducible first | apply Val.via | apply ValH.via) | refine ifB_intro ?_ ?_ | refine xA (by omega) ?_ | ((refine xB ?_); intro kw hk1 hk2) | refine xC (by omega) ?_ | refine xD ?_ | refine xE (by omega) ?_ | refine xF (by omega) ?_ | refine xG ?_ | refine xH ?_ | refine xI (by omega) ?_ | refine xJ (by omega) ?_ | (with_reducible refine stopA ?_) | refine Exists.intro _ (And.intro (by (first | exact vbytes_mid (a := a) (n := n) rfl rfl rfl | exact vat_cutG hp (by omega) rfl rfl rfl | exact vat_of rfl rfl rfl | rfl)) ?_) | refine GOp.drawn (by rfl) (by rfl) (Nat.le_of_ble_eq_true (by rfl)) (by rfl) | refine GOp.via (by rfl) ?_ | refine GWP.drawY mixed _ (by kernel_rfl) (by rfl) ?_ | (refine GCall.mk (VCall.arg1 (roB_tail (n := a) rfl (by omega) rfl) ((hdg _).mono ?_)); rintro _ _ ⟨rfl, rfl⟩) | (with_reducible first | refine stopO ?_ | refine stopE ?_ | refine stopD ?_ | refine stopW ?_ | refine stopG ?_ | refine stopC ?_ | refine stopR ?_))))
            (all_goals (first | omega | contradiction | exact cut_mid rfl (by omega) | (exfalso; have hmx : IntKind.i64.max = 9223372036854775807 := rfl; rw [hmx] at hx; simp [ByteArray.size_append, ByteArray.size] at hx; omega) | skip))
            focus (refine Done'.mk ⟨0 + 1, (by omega), ?_, KeptA.of [] rfl rfl (by repeat' (first | exact trivial | refine And.intro rfl ?_)) rfl ?_ ?_⟩; (first | omega | (simp only; omega)); all_goals (repeat' (first | exact trivial | (refine And.intro ?_ ?_) | (refine Exists.intro _ (And.intro rfl ?_)) | (refine RenO.opt ?_) | (refine RenO.toOpt ?_) | (refine RenO.cells ?_) | exact RenO.defs | exact RenL.nil | (refine RenL.cons ?_ ?_) | (first | (first | (refine RenV.eq ?_ (nameless_sc _); rw [ho1]; exact catQ _ _) | exact RenV.eq (scI_eq (by omega)) (nameless_sc _)) | (with_reducible exact RenV.sc) | exact RenV.gsN | exact RenV.gsZ | exact RenV.gsL (by decide) | exact RenV.slL (by decide) | ((first | refine RenV.gsE (by (first | exact List.Mem.head _ | exact List.Mem.tail _ (List.Mem.head _) | exact List.Mem.tail _ (List.Mem.tail _ (List.Mem.head _)) | (simp; done))) ?_ | refine RenV.eq (scI_eq ?_) (nameless_sc _)); (first | rfl | omega | (simp only [List.length_append, List.length_cons, List.length_nil, List.length_map, List.length_take, List.length_drop] <;> omega) | (simp only <;> omega) | (simp <;> omega))) | exact RenV.undef) | (with_unfolding_all exact (rfl : (_ : VObj) = _)))))
        · by_cases hk4 : kd = 4
          · subst hk4
            have hown : ownB t (⟨4, tx, nm⟩, a) = quoteB tx := rfl
            have hqu := fun H => quote_call tx (by have := k2 rfl; omega) H
            have hxl : (quoteB tx).length ≤ 1602 := by rw [← hown]; omega
            generalize quoteB tx = x at *
            by_cases hi0 : 0 < i
            · have ho1 : out (i + 1) = out i ++ b ++ x := by rw [hstep i _ hp, if_pos hi0, hown]
              (repeat' (first | with_reducible refine And.intro ?_ ?_ | ((with_reducible intro hc); (try simp only [zA, zB, zC, zD, zE, zF, zG, zH, zI, zJ, zK, zL, zM, zN, zO, zP, zQ, zR, zS, zT, zU, zV, zW] at hc); (first | (exact absurd rfl hc) | (exact absurd trivial hc) | (exfalso; omega) | skip)) | exact Is.mk rfl rfl | ((conv => whnf); first | with_reducible refine And.intro ?_ ?_ | with_reducible intro hx | exact Is.mk rfl rfl | (with_reducible first | apply Val.via | apply ValH.via) | refine ifB_intro ?_ ?_ | refine xA (by omega) ?_ | ((refine xB ?_); intro kw hk1 hk2) | refine xC (by omega) ?_ | refine xD ?_ | refine xE (by omega) ?_ | refine xF (by omega) ?_ | refine xG ?_ | refine xH ?_ | refine xI (by omega) ?_ | refine xJ (by omega) ?_ | (with_reducible refine stopA ?_) | refine Exists.intro _ (And.intro (by (first | rfl | exact vat_cutG hp (by omega) rfl rfl rfl | exact vat_of rfl rfl rfl | rfl)) ?_) | refine GOp.drawn (by rfl) (by rfl) (Nat.le_of_ble_eq_true (by rfl)) (by rfl) | refine GOp.via (by rfl) ?_ | refine GWP.drawY mixed _ (by kernel_rfl) (by rfl) ?_ | (refine GCall.mk ((hqu _).mono ?_); rintro _ _ ⟨rfl, rfl⟩) | (with_reducible first | refine stopO ?_ | refine stopE ?_ | refine stopD ?_ | refine stopW ?_ | refine stopG ?_ | refine stopC ?_ | refine stopR ?_))))
              (all_goals (first | omega | contradiction | exact cut_mid rfl (by omega) | (exfalso; have hmx : IntKind.i64.max = 9223372036854775807 := rfl; rw [hmx] at hx; simp [ByteArray.size_append, ByteArray.size] at hx; omega) | skip))
              focus (refine Done'.mk ⟨i + 1, (by omega), ?_, KeptA.of [] rfl rfl (by repeat' (first | exact trivial | refine And.intro rfl ?_)) rfl ?_ ?_⟩; (first | omega | (simp only; omega)); all_goals (repeat' (first | exact trivial | (refine And.intro ?_ ?_) | (refine Exists.intro _ (And.intro rfl ?_)) | (refine RenO.opt ?_) | (refine RenO.toOpt ?_) | (refine RenO.cells ?_) | exact RenO.defs | exact RenL.nil | (refine RenL.cons ?_ ?_) | (first | (first | (refine RenV.eq ?_ (nameless_sc _); rw [ho1]; exact cat3 _ _ _) | exact RenV.eq (scI_eq (by omega)) (nameless_sc _)) | (with_reducible exact RenV.sc) | exact RenV.gsN | exact RenV.gsZ | exact RenV.gsL (by decide) | exact RenV.slL (by decide) | ((first | refine RenV.gsE (by (first | exact List.Mem.head _ | exact List.Mem.tail _ (List.Mem.head _) | exact List.Mem.tail _ (List.Mem.tail _ (List.Mem.head _)) | (simp; done))) ?_ | refine RenV.eq (scI_eq ?_) (nameless_sc _)); (first | rfl | omega | (simp only [List.length_append, List.length_cons, List.length_nil, List.length_map, List.length_take, List.length_drop] <;> omega) | (simp only <;> omega) | (simp <;> omega))) | exact RenV.undef) | (with_unfolding_all exact (rfl : (_ : VObj) = _)))))
            · obtain rfl : i = 0 := by omega
              have ho1 : out (0 + 1) = out 0 ++ x := by rw [hstep 0 _ hp, if_neg hi0, hown]
              (repeat' (first | with_reducible refine And.intro ?_ ?_ | ((with_reducible intro hc); (try simp only [zA, zB, zC, zD, zE, zF, zG, zH, zI, zJ, zK, zL, zM, zN, zO, zP, zQ, zR, zS, zT, zU, zV, zW] at hc); (first | (exact absurd rfl hc) | (exact absurd trivial hc) | (exfalso; omega) | skip)) | exact Is.mk rfl rfl | ((conv => whnf); first | with_reducible refine And.intro ?_ ?_ | with_reducible intro hx | exact Is.mk rfl rfl | (with_reducible first | apply Val.via | apply ValH.via) | refine ifB_intro ?_ ?_ | refine xA (by omega) ?_ | ((refine xB ?_); intro kw hk1 hk2) | refine xC (by omega) ?_ | refine xD ?_ | refine xE (by omega) ?_ | refine xF (by omega) ?_ | refine xG ?_ | refine xH ?_ | refine xI (by omega) ?_ | refine xJ (by omega) ?_ | (with_reducible refine stopA ?_) | refine Exists.intro _ (And.intro (by (first | rfl | exact vat_cutG hp (by omega) rfl rfl rfl | exact vat_of rfl rfl rfl | rfl)) ?_) | refine GOp.drawn (by rfl) (by rfl) (Nat.le_of_ble_eq_true (by rfl)) (by rfl) | refine GOp.via (by rfl) ?_ | refine GWP.drawY mixed _ (by kernel_rfl) (by rfl) ?_ | (refine GCall.mk ((hqu _).mono ?_); rintro _ _ ⟨rfl, rfl⟩) | (with_reducible first | refine stopO ?_ | refine stopE ?_ | refine stopD ?_ | refine stopW ?_ | refine stopG ?_ | refine stopC ?_ | refine stopR ?_))))
              (all_goals (first | omega | contradiction | exact cut_mid rfl (by omega) | (exfalso; have hmx : IntKind.i64.max = 9223372036854775807 := rfl; rw [hmx] at hx; simp [ByteArray.size_append, ByteArray.size] at hx; omega) | skip))
              focus (refine Done'.mk ⟨0 + 1, (by omega), ?_, KeptA.of [] rfl rfl (by repeat' (first | exact trivial | refine And.intro rfl ?_)) rfl ?_ ?_⟩; (first | omega | (simp only; omega)); all_goals (repeat' (first | exact trivial | (refine And.intro ?_ ?_) | (refine Exists.intro _ (And.intro rfl ?_)) | (refine RenO.opt ?_) | (refine RenO.toOpt ?_) | (refine RenO.cells ?_) | exact RenO.defs | exact RenL.nil | (refine RenL.cons ?_ ?_) | (first | (first | (refine RenV.eq ?_ (nameless_sc _); rw [ho1]; exact catQ _ _) | exact RenV.eq (scI_eq (by omega)) (nameless_sc _)) | (with_reducible exact RenV.sc) | exact RenV.gsN | exact RenV.gsZ | exact RenV.gsL (by decide) | exact RenV.slL (by decide) | ((first | refine RenV.gsE (by (first | exact List.Mem.head _ | exact List.Mem.tail _ (List.Mem.head _) | exact List.Mem.tail _ (List.Mem.tail _ (List.Mem.head _)) | (simp; done))) ?_ | refine RenV.eq (scI_eq ?_) (nameless_sc _)); (first | rfl | omega | (simp only [List.length_append, List.length_cons, List.length_nil, List.length_map, List.length_take, List.length_drop] <;> omega) | (simp only <;> omega) | (simp <;> omega))) | exact RenV.undef) | (with_unfolding_all exact (rfl : (_ : VObj) = _)))))
          · have hown : ownB t (⟨kd, tx, nm⟩, a) = tx := by
              show (if kd = 3 then _ else if kd = 4 then _ else tx) = tx
              rw [if_neg hk3, if_neg hk4]
            have hxl : tx.length ≤ 1602 := by rw [← hown]; omega
            by_cases hi0 : 0 < i
            · have ho1 : out (i + 1) = out i ++ b ++ tx := by rw [hstep i _ hp, if_pos hi0, hown]
              (repeat' (first | with_reducible refine And.intro ?_ ?_ | ((with_reducible intro hc); (try simp only [zA, zB, zC, zD, zE, zF, zG, zH, zI, zJ, zK, zL, zM, zN, zO, zP, zQ, zR, zS, zT, zU, zV, zW] at hc); (first | (exact absurd rfl hc) | (exact absurd trivial hc) | (exfalso; omega) | skip)) | exact Is.mk rfl rfl | ((conv => whnf); first | with_reducible refine And.intro ?_ ?_ | with_reducible intro hx | exact Is.mk rfl rfl | (with_reducible first | apply Val.via | apply ValH.via) | refine ifB_intro ?_ ?_ | refine xA (by omega) ?_ | ((refine xB ?_); intro kw hk1 hk2) | refine xC (by omega) ?_ | refine xD ?_ | refine xE (by omega) ?_ | refine xF (by omega) ?_ | refine xG ?_ | refine xH ?_ | refine xI (by omega) ?_ | refine xJ (by omega) ?_ | (with_reducible refine stopA ?_) | refine Exists.intro _ (And.intro (by (first | rfl | exact vat_cutG hp (by omega) rfl rfl rfl | exact vat_of rfl rfl rfl | rfl)) ?_) | refine GOp.drawn (by rfl) (by rfl) (Nat.le_of_ble_eq_true (by rfl)) (by rfl) | refine GOp.via (by rfl) ?_ | refine GWP.drawY mixed _ (by kernel_rfl) (by rfl) ?_ | fail | (with_reducible first | refine stopO ?_ | refine stopE ?_ | refine stopD ?_ | refine stopW ?_ | refine stopG ?_ | refine stopC ?_ | refine stopR ?_))))
              (all_goals (first | omega | contradiction | exact cut_mid rfl (by omega) | (exfalso; have hmx : IntKind.i64.max = 9223372036854775807 := rfl; rw [hmx] at hx; simp [ByteArray.size_append, ByteArray.size] at hx; omega) | skip))
              focus (refine Done'.mk ⟨i + 1, (by omega), ?_, KeptA.of [] rfl rfl (by repeat' (first | exact trivial | refine And.intro rfl ?_)) rfl ?_ ?_⟩; (first | omega | (simp only; omega)); all_goals (repeat' (first | exact trivial | (refine And.intro ?_ ?_) | (refine Exists.intro _ (And.intro rfl ?_)) | (refine RenO.opt ?_) | (refine RenO.toOpt ?_) | (refine RenO.cells ?_) | exact RenO.defs | exact RenL.nil | (refine RenL.cons ?_ ?_) | (first | (first | (refine RenV.eq ?_ (nameless_sc _); rw [ho1]; exact cat3 _ _ _) | exact RenV.eq (scI_eq (by omega)) (nameless_sc _)) | (with_reducible exact RenV.sc) | exact RenV.gsN | exact RenV.gsZ | exact RenV.gsL (by decide) | exact RenV.slL (by decide) | ((first | refine RenV.gsE (by (first | exact List.Mem.head _ | exact List.Mem.tail _ (List.Mem.head _) | exact List.Mem.tail _ (List.Mem.tail _ (List.Mem.head _)) | (simp; done))) ?_ | refine RenV.eq (scI_eq ?_) (nameless_sc _)); (first | rfl | omega | (simp only [List.length_append, List.length_cons, List.length_nil, List.length_map, List.length_take, List.length_drop] <;> omega) | (simp only <;> omega) | (simp <;> omega))) | exact RenV.undef) | (with_unfolding_all exact (rfl : (_ : VObj) = _)))))
            · obtain rfl : i = 0 := by omega
              have ho1 : out (0 + 1) = out 0 ++ tx := by rw [hstep 0 _ hp, if_neg hi0, hown]
              (repeat' (first | with_reducible refine And.intro ?_ ?_ | ((with_reducible intro hc); (try simp only [zA, zB, zC, zD, zE, zF, zG, zH, zI, zJ, zK, zL, zM, zN, zO, zP, zQ, zR, zS, zT, zU, zV, zW] at hc); (first | (exact absurd rfl hc) | (exact absurd trivial hc) | (exfalso; omega) | skip)) | exact Is.mk rfl rfl | ((conv => whnf); first | with_reducible refine And.intro ?_ ?_ | with_reducible intro hx | exact Is.mk rfl rfl | (with_reducible first | apply Val.via | apply ValH.via) | refine ifB_intro ?_ ?_ | refine xA (by omega) ?_ | ((refine xB ?_); intro kw hk1 hk2) | refine xC (by omega) ?_ | refine xD ?_ | refine xE (by omega) ?_ | refine xF (by omega) ?_ | refine xG ?_ | refine xH ?_ | refine xI (by omega) ?_ | refine xJ (by omega) ?_ | (with_reducible refine stopA ?_) | refine Exists.intro _ (And.intro (by (first | rfl | exact vat_cutG hp (by omega) rfl rfl rfl | exact vat_of rfl rfl rfl | rfl)) ?_) | refine GOp.drawn (by rfl) (by rfl) (Nat.le_of_ble_eq_true (by rfl)) (by rfl) | refine GOp.via (by rfl) ?_ | refine GWP.drawY mixed _ (by kernel_rfl) (by rfl) ?_ | fail | (with_reducible first | refine stopO ?_ | refine stopE ?_ | refine stopD ?_ | refine stopW ?_ | refine stopG ?_ | refine stopC ?_ | refine stopR ?_))))
              (all_goals (first | omega | contradiction | exact cut_mid rfl (by omega) | (exfalso; have hmx : IntKind.i64.max = 9223372036854775807 := rfl; rw [hmx] at hx; simp [ByteArray.size_append, ByteArray.size] at hx; omega) | skip))
              focus (refine Done'.mk ⟨0 + 1, (by omega), ?_, KeptA.of [] rfl rfl (by repeat' (first | exact trivial | refine And.intro rfl ?_)) rfl ?_ ?_⟩; (first | omega | (simp only; omega)); all_goals (repeat' (first | exact trivial | (refine And.intro ?_ ?_) | (refine Exists.intro _ (And.intro rfl ?_)) | (refine RenO.opt ?_) | (refine RenO.toOpt ?_) | (refine RenO.cells ?_) | exact RenO.defs | exact RenL.nil | (refine RenL.cons ?_ ?_) | (first | (first | (refine RenV.eq ?_ (nameless_sc _); rw [ho1]; exact catQ _ _) | exact RenV.eq (scI_eq (by omega)) (nameless_sc _)) | (with_reducible exact RenV.sc) | exact RenV.gsN | exact RenV.gsZ | exact RenV.gsL (by decide) | exact RenV.slL (by decide) | ((first | refine RenV.gsE (by (first | exact List.Mem.head _ | exact List.Mem.tail _ (List.Mem.head _) | exact List.Mem.tail _ (List.Mem.tail _ (List.Mem.head _)) | (simp; done))) ?_ | refine RenV.eq (scI_eq ?_) (nameless_sc _)); (first | rfl | omega | (simp only [List.length_append, List.length_cons, List.length_nil, List.length_map, List.length_take, List.length_drop] <;> omega) | (simp only <;> omega) | (simp <;> omega))) | exact RenV.undef) | (with_unfolding_all exact (rfl : (_ : VObj) = _)))))
      · obtain rfl : i = l.dropLast.length := by omega
        by_cases h40 : 4096 < (out l.dropLast.length).length
        · (repeat' (first | with_reducible refine And.intro ?_ ?_ | ((with_reducible intro hc); (try simp only [zA, zB, zC, zD, zE, zF, zG, zH, zI, zJ, zK, zL, zM, zN, zO, zP, zQ, zR, zS, zT, zU, zV, zW] at hc); (first | (exact absurd rfl hc) | (exact absurd trivial hc) | (exfalso; omega) | skip)) | exact Is.mk rfl rfl | ((conv => whnf); first | with_reducible refine And.intro ?_ ?_ | with_reducible intro hx | exact Is.mk rfl rfl | (with_reducible first | apply Val.via | apply ValH.via) | refine ifB_intro ?_ ?_ | refine xA (by omega) ?_ | ((refine xB ?_); intro kw hk1 hk2) | refine xC (by omega) ?_ | refine xD ?_ | refine xE (by omega) ?_ | refine xF (by omega) ?_ | refine xG ?_ | refine xH ?_ | refine xI (by omega) ?_ | refine xJ (by omega) ?_ | (with_reducible refine stopA ?_) | refine Exists.intro _ (And.intro (by (first | exact vat_of vagg_u8 (map_at hb) (mul1 rfl rfl) | exact vat_of rfl rfl rfl | rfl)) ?_) | refine GOp.drawn (by rfl) (by rfl) (Nat.le_of_ble_eq_true (by rfl)) (by rfl) | refine GOp.via (by rfl) ?_ | refine GWP.drawY mixed _ (by kernel_rfl) (by rfl) ?_ | fail | (with_reducible first | refine stopO ?_ | refine stopE ?_ | refine stopD ?_ | refine stopW ?_ | refine stopG ?_ | refine stopC ?_ | refine stopR ?_))))
          (all_goals (first | omega | contradiction | exact cut_mid rfl (by omega) | (exfalso; have hmx : IntKind.i64.max = 9223372036854775807 := rfl; rw [hmx] at hx; simp [ByteArray.size_append, ByteArray.size] at hx; omega) | skip))
          all_goals exact Done'.mk rfl
        have hwl : (out l.dropLast.length ++ b).length = (out l.dropLast.length).length + b.length := List.length_append
        have hs2 := fun {H : Heap} {n : Nat} {vs : List VV} (hg : H.get 0 = some (.cells true vs)) (hv : vs = (out l.dropLast.length ++ b).map bV) (hn : n = (out l.dropLast.length ++ b).length) => signsV (w := out l.dropLast.length ++ b) (by omega) hg hv hn
        by_cases h41 : 4096 < (out l.dropLast.length ++ b).length
        · rw [signsB_long h41] at hs2
          generalize out l.dropLast.length = o at *
          have hso := str_size o
          have hsb := str_size b
          (repeat' (first | with_reducible refine And.intro ?_ ?_ | ((with_reducible intro hc); (try simp only [zA, zB, zC, zD, zE, zF, zG, zH, zI, zJ, zK, zL, zM, zN, zO, zP, zQ, zR, zS, zT, zU, zV, zW] at hc); (first | (exact absurd rfl hc) | (exact absurd trivial hc) | (exfalso; omega) | skip)) | exact Is.mk rfl rfl | ((conv => whnf); first | with_reducible refine And.intro ?_ ?_ | with_reducible intro hx | exact Is.mk rfl rfl | (with_reducible first | apply Val.via | apply ValH.via) | refine ifB_intro ?_ ?_ | refine xA (by omega) ?_ | ((refine xB ?_); intro kw hk1 hk2) | refine xC (by omega) ?_ | refine xD ?_ | refine xE (by omega) ?_ | refine xF (by omega) ?_ | refine xG ?_ | refine xH ?_ | refine xI (by omega) ?_ | refine xJ (by omega) ?_ | (with_reducible refine stopA ?_) | refine Exists.intro _ (And.intro (by (first | exact vat_of vagg_u8 (map_at hb) (mul1 rfl rfl) | exact vat_of rfl rfl rfl | rfl)) ?_) | refine GOp.drawn (by rfl) (by rfl) (Nat.le_of_ble_eq_true (by rfl)) (by rfl) | refine GOp.via (by rfl) ?_ | refine GWP.drawY mixed _ (by kernel_rfl) (by rfl) ?_ | (refine GCall.mk ((hs2 rfl (by rw [app_strQ]; rfl) (by rw [app_strQ]; rfl)).mono ?_); rintro _ _ ⟨rfl, rfl⟩) | (with_reducible first | refine stopO ?_ | refine stopE ?_ | refine stopD ?_ | refine stopW ?_ | refine stopG ?_ | refine stopC ?_ | refine stopR ?_))))
          (all_goals (first | omega | contradiction | exact cut_mid rfl (by omega) | (exfalso; have hmx : IntKind.i64.max = 9223372036854775807 := rfl; rw [hmx] at hx; simp [ByteArray.size_append, ByteArray.size] at hx; omega) | skip))
          all_goals exact Done'.mk rfl
        · obtain ⟨l2, q1, q2⟩ := p4 (by omega)
          rw [q1] at hs2
          simp only [sgsR] at hs2
          have hl2 : l2.length = l.length := by have := congrArg List.length q2; simpa using this
          generalize out l.dropLast.length = o at *
          have hso := str_size o
          have hsb := str_size b
          (repeat' (first | with_reducible refine And.intro ?_ ?_ | ((with_reducible intro hc); (try simp only [zA, zB, zC, zD, zE, zF, zG, zH, zI, zJ, zK, zL, zM, zN, zO, zP, zQ, zR, zS, zT, zU, zV, zW] at hc); (first | (exact absurd rfl hc) | (exact absurd trivial hc) | (exfalso; omega) | skip)) | exact Is.mk rfl rfl | ((conv => whnf); first | with_reducible refine And.intro ?_ ?_ | with_reducible intro hx | exact Is.mk rfl rfl | (with_reducible first | apply Val.via | apply ValH.via) | refine ifB_intro ?_ ?_ | refine xA (by omega) ?_ | ((refine xB ?_); intro kw hk1 hk2) | refine xC (by omega) ?_ | refine xD ?_ | refine xE (by omega) ?_ | refine xF (by omega) ?_ | refine xG ?_ | refine xH ?_ | refine xI (by omega) ?_ | refine xJ (by omega) ?_ | (with_reducible refine stopA ?_) | refine Exists.intro _ (And.intro (by (first | exact vat_of vagg_u8 (map_at hb) (mul1 rfl rfl) | exact vat_of rfl rfl rfl | rfl)) ?_) | refine GOp.drawn (by rfl) (by rfl) (Nat.le_of_ble_eq_true (by rfl)) (by rfl) | refine GOp.via (by rfl) ?_ | refine GWP.drawY mixed _ (by kernel_rfl) (by rfl) ?_ | (refine GCall.mk ((hs2 rfl (by rw [app_strQ]; rfl) (by rw [app_strQ]; rfl)).mono ?_); rintro _ _ ⟨rfl, rfl⟩) | (with_reducible first | refine stopO ?_ | refine stopE ?_ | refine stopD ?_ | refine stopW ?_ | refine stopG ?_ | refine stopC ?_ | refine stopR ?_))))
          (all_goals (first | omega | contradiction | exact cut_mid rfl (by omega) | (exfalso; have hmx : IntKind.i64.max = 9223372036854775807 := rfl; rw [hmx] at hx; simp [ByteArray.size_append, ByteArray.size] at hx; omega) | skip))
          (refine GWP'.mk (GWP.loopB [] (fun (i : Nat) => i ≤ l.length) (fun i => [(111, iV i)]) (fun _ => []) 1 (fun i => l.length - i) 0 (Nat.zero_le _) ?_); (conv => whnf); refine And.intro ?_ ?_)
          · focus (refine KeptA.of [] rfl rfl (by repeat' (first | exact trivial | refine And.intro rfl ?_)) rfl ?_ ?_; all_goals (repeat' (first | exact trivial | (refine And.intro ?_ ?_) | (refine Exists.intro _ (And.intro rfl ?_)) | (refine RenO.opt ?_) | (refine RenO.toOpt ?_) | (refine RenO.cells ?_) | exact RenO.defs | exact RenL.nil | (refine RenL.cons ?_ ?_) | (first | fail | (with_reducible exact RenV.sc) | exact RenV.gsN | exact RenV.gsZ | exact RenV.gsL (by decide) | exact RenV.slL (by decide) | ((first | refine RenV.gsE (by (first | exact List.Mem.head _ | exact List.Mem.tail _ (List.Mem.head _) | exact List.Mem.tail _ (List.Mem.tail _ (List.Mem.head _)) | (simp; done))) ?_ | refine RenV.eq (scI_eq ?_) (nameless_sc _)); (first | rfl | omega | (simp only [List.length_append, List.length_cons, List.length_nil, List.length_map, List.length_take, List.length_drop] <;> omega) | (simp only <;> omega) | (simp <;> omega))) | exact RenV.undef) | (with_unfolding_all exact (rfl : (_ : VObj) = _)))))
          rintro i g1
          simp only at g1 ⊢
          by_cases hil2 : i < l.length
          · obtain ⟨p, hp⟩ := list_at hil2
            obtain ⟨p2, hp2⟩ := list_at (show i < l2.length by omega)
            have hpe : p2.1 = p.1 := by
              have h1 := congrArg (fun (r : List Sg) => r[i]?) q2
              simp only [List.getElem?_map, hp, hp2, Option.map_some, Option.some.injEq] at h1
              exact h1
            obtain ⟨⟨kd, tx, nm⟩, a⟩ := p
            obtain ⟨s2, a2⟩ := p2
            dsimp only at hpe
            subst hpe
            have r0 := rowsG_get (j := 0) (v := iV kd) hp rfl
            have r1 := rowsG_get (j := 1) (v := strV tx) hp rfl
            have r2 := rowsG_get (j := 2) (v := iV nm) hp rfl
            have u0 := rowsG_get (j := 0) (v := iV kd) hp2 rfl
            have u1 := rowsG_get (j := 1) (v := strV tx) hp2 rfl
            have u2 := rowsG_get (j := 2) (v := iV nm) hp2 rfl
            have heq : (tx == tx) = true := by simp
            (repeat' (first | with_reducible refine And.intro ?_ ?_ | ((with_reducible intro hc); (try simp only [zA, zB, zC, zD, zE, zF, zG, zH, zI, zJ, zK, zL, zM, zN, zO, zP, zQ, zR, zS, zT, zU, zV, zW] at hc); (first | (exact absurd rfl hc) | (exact absurd trivial hc) | (exfalso; omega) | skip)) | exact Is.mk rfl rfl | ((conv => whnf); first | with_reducible refine And.intro ?_ ?_ | with_reducible intro hx | exact Is.mk rfl rfl | (with_reducible first | apply Val.via | apply ValH.via) | refine ifB_intro ?_ ?_ | refine xA (by omega) ?_ | ((refine xB ?_); intro kw hk1 hk2) | refine xC (by omega) ?_ | refine xD ?_ | refine xE (by omega) ?_ | refine xF (by omega) ?_ | refine xG ?_ | refine xH ?_ | refine xI (by omega) ?_ | refine xJ (by omega) ?_ | (with_reducible refine stopA ?_) | refine Exists.intro _ (And.intro (by (first | exact vat_of rfl r0 rfl | exact vat_of rfl r1 rfl | exact vat_of rfl r2 rfl | exact vat_of rfl u0 rfl | exact vat_of rfl u1 rfl | exact vat_of rfl u2 rfl | exact vat_of rfl rfl rfl | rfl)) ?_) | refine GOp.drawn (by rfl) (by rfl) (Nat.le_of_ble_eq_true (by rfl)) (by rfl) | refine GOp.via (by rfl) ?_ | refine GWP.drawY mixed _ (by kernel_rfl) (by rfl) ?_ | fail | (with_reducible first | refine stopO ?_ | refine stopE ?_ | refine stopD ?_ | refine stopW ?_ | refine stopG ?_ | refine stopC ?_ | refine stopR ?_))))
            (all_goals (first | omega | contradiction | exact cut_mid rfl (by omega) | (exfalso; have hmx : IntKind.i64.max = 9223372036854775807 := rfl; rw [hmx] at hx; simp [ByteArray.size_append, ByteArray.size] at hx; omega) | skip))
            focus (refine Done'.mk ⟨i + 1, (by omega), ?_, KeptA.of [] rfl rfl (by repeat' (first | exact trivial | refine And.intro rfl ?_)) rfl ?_ ?_⟩; (first | omega | (simp only; omega)); all_goals (repeat' (first | exact trivial | (refine And.intro ?_ ?_) | (refine Exists.intro _ (And.intro rfl ?_)) | (refine RenO.opt ?_) | (refine RenO.toOpt ?_) | (refine RenO.cells ?_) | exact RenO.defs | exact RenL.nil | (refine RenL.cons ?_ ?_) | (first | exact RenV.eq (scI_eq (by omega)) (nameless_sc _) | (with_reducible exact RenV.sc) | exact RenV.gsN | exact RenV.gsZ | exact RenV.gsL (by decide) | exact RenV.slL (by decide) | ((first | refine RenV.gsE (by (first | exact List.Mem.head _ | exact List.Mem.tail _ (List.Mem.head _) | exact List.Mem.tail _ (List.Mem.tail _ (List.Mem.head _)) | (simp; done))) ?_ | refine RenV.eq (scI_eq ?_) (nameless_sc _)); (first | rfl | omega | (simp only [List.length_append, List.length_cons, List.length_nil, List.length_map, List.length_take, List.length_drop] <;> omega) | (simp only <;> omega) | (simp <;> omega))) | exact RenV.undef) | (with_unfolding_all exact (rfl : (_ : VObj) = _)))))
          · obtain rfl : i = l.length := by omega
            (repeat' (first | with_reducible refine And.intro ?_ ?_ | ((with_reducible intro hc); (try simp only [zA, zB, zC, zD, zE, zF, zG, zH, zI, zJ, zK, zL, zM, zN, zO, zP, zQ, zR, zS, zT, zU, zV, zW] at hc); (first | (exact absurd rfl hc) | (exact absurd trivial hc) | (exfalso; omega) | skip)) | exact Is.mk rfl rfl | ((conv => whnf); first | with_reducible refine And.intro ?_ ?_ | with_reducible intro hx | exact Is.mk rfl rfl | (with_reducible first | apply Val.via | apply ValH.via) | refine ifB_intro ?_ ?_ | refine xA (by omega) ?_ | ((refine xB ?_); intro kw hk1 hk2) | refine xC (by omega) ?_ | refine xD ?_ | refine xE (by omega) ?_ | refine xF (by omega) ?_ | refine xG ?_ | refine xH ?_ | refine xI (by omega) ?_ | refine xJ (by omega) ?_ | (with_reducible refine stopA ?_) | refine Exists.intro _ (And.intro (by (first | exact vat_of vagg_u8 (map_at hb) (mul1 rfl rfl) | exact vat_of rfl rfl rfl | rfl)) ?_) | refine GOp.drawn (by rfl) (by rfl) (Nat.le_of_ble_eq_true (by rfl)) (by rfl) | refine GOp.via (by rfl) ?_ | refine GWP.drawY mixed _ (by kernel_rfl) (by rfl) ?_ | fail | (with_reducible first | refine stopO ?_ | refine stopE ?_ | refine stopD ?_ | refine stopW ?_ | refine stopG ?_ | refine stopC ?_ | refine stopR ?_))))
            (all_goals (first | omega | contradiction | exact cut_mid rfl (by omega) | (exfalso; have hmx : IntKind.i64.max = 9223372036854775807 := rfl; rw [hmx] at hx; simp [ByteArray.size_append, ByteArray.size] at hx; omega) | skip))
            all_goals exact Done'.mk rfl
  · refine VCall.go Try.func4 rfl ?_
    repeat' (first | with_reducible refine And.intro ?_ ?_ | ((with_reducible intro hc); (try simp only [zA, zB, zC, zD, zE, zF, zG, zH, zI, zJ, zK, zL, zM, zN, zO, zP, zQ, zR, zS, zT, zU, zV, zW] at hc); (first | (exact absurd rfl hc) | (exact absurd trivial hc) | (exfalso; omega) | skip)) | exact Is.mk rfl rfl | ((conv => whnf); first | with_reducible refine And.intro ?_ ?_ | with_reducible intro hx | exact Is.mk rfl rfl | (with_reducible first | apply Val.via | apply ValH.via) | refine ifB_intro ?_ ?_ | refine xA (by omega) ?_ | ((refine xB ?_); intro kw hk1 hk2) | refine xC (by omega) ?_ | refine xD ?_ | refine xE (by omega) ?_ | refine xF (by omega) ?_ | refine xG ?_ | refine xH ?_ | refine xI (by omega) ?_ | refine xJ (by omega) ?_ | (with_reducible refine stopA ?_) | refine Exists.intro _ (And.intro (by rfl) ?_) | refine GOp.drawn (by rfl) (by rfl) (Nat.le_of_ble_eq_true (by rfl)) (by rfl) | refine GOp.via (by rfl) ?_ | refine GWP.drawY mixed _ (by kernel_rfl) (by rfl) ?_ | (refine GCall.mk ((hlv _).mono ?_); rintro _ _ ⟨rfl, rfl⟩) | (with_reducible first | refine stopO ?_ | refine stopE ?_ | refine stopD ?_ | refine stopW ?_ | refine stopG ?_ | refine stopC ?_ | refine stopR ?_)))
    all_goals (first | omega | exact Done'.mk rfl)
end Go.Proofs.Ytbnemkdkeaiaoaa

/- What comes in, as values of the walk. Over any program. -/
namespace Go.Proofs.Ytbnemkdkeaiaoaa
open Go Go.ChangeShapes Go.WideShapes Go.RowKit
set_option linter.unusedSimpArgs false
set_option linter.unusedVariables false
/-- All that is there. -/
def Old (w : World) : Nat → Prop := fun k => k < w.heap.size
def noName : Nat → Option (Nat × Nat) := fun _ => none
theorem open_roB {P : Program} {H : Type} {enc : TypeId × Value → H} {W : World} {base : Nat} {t e : TypeId} {v : Value} {d : DataW H} {p : List MemPlace} (ut : P.underlying t = some (.slice e)) (ue : P.underlying e = some (.int .u8)) (hc : P.cellsOf e = 1)
    (hval : Value.okWide P W .any base t v) (h : DataW.Trod enc P W 0 (fun _ => true) true t v d p) : ∃ l : List UInt8, l.length ≤ maxLen ∧ VRel W (Old W) noName (roB l) v := by
  obtain ⟨a1, len, cap, rfl⟩ := okWide_slice ut hval
  obtain ⟨fuel, hf⟩ := h
  rcases open_ints ut ue hc hf with ⟨hcs, hx⟩ | ⟨a, len', cap', zs, hcs, _, hl, hm, hz, hx, hcell, hwz⟩
  · simp [Value.cells] at hcs
    obtain ⟨rfl, rfl, rfl⟩ := hcs
    exact ⟨[], Nat.zero_le _, .ro0⟩
  · simp [Value.cells] at hcs
    obtain ⟨rfl, rfl, rfl⟩ := hcs
    simp only [if_true] at hz
    refine ⟨(zs.take len).map fun n => UInt8.ofNat n.toNat, by simp; omega, ?_⟩
    have hlen : ((zs.take len).map fun n => UInt8.ofNat n.toNat).length = len := by simp; omega
    unfold roB
    rw [hlen]
    by_cases h0 : len = 0
    · subst h0
      exact .ro0
    · obtain ⟨ab, ao, spot⟩ := a
      have hspot : spot = none := by simpa [Addr.add] using World.cell?_spot (hcell 0 (by omega))
      subst hspot
      have hZ : Old W ab := by
        have := hcell 0 (by omega)
        unfold Old
        simp only [Addr.add, World.cell?] at this
        cases hh : W.heap[ab]? with
        | none => simp [hh] at this
        | some o => exact (Array.getElem?_eq_some_iff.1 hh).1
      refine .ro (cs := (zs.take len).map (Value.int .u8)) hZ hl (by simp) (fun i hi => ?_) (fun i u c hu hc => ?_)
      · simp only [List.length_map, List.length_take] at hi
        have := hcell i (by omega)
        rw [Addr.add_lit] at this
        rw [this, List.getElem?_map, List.getElem?_take_of_lt (by omega), List.getD_eq_getElem?_getD, List.getElem?_eq_getElem (show i < zs.length by omega)]
        rfl
      · have hi : i < len := by
          have := (List.getElem?_eq_some_iff.1 hc).1
          simp at this
          omega
        rw [List.getElem?_map, List.getElem?_map, List.getElem?_take_of_lt hi, List.getElem?_eq_getElem (show i < zs.length by omega)] at hu
        rw [List.getElem?_map, List.getElem?_take_of_lt hi, List.getElem?_eq_getElem (show i < zs.length by omega)] at hc
        simp only [Option.map_some, Option.some.injEq] at hu hc
        subst hu hc
        have hb := range_u8 hwz i
        rw [List.getElem?_eq_getElem (show i < zs.length by omega)] at hb
        simp only [Option.getD_some] at hb
        have : ((UInt8.ofNat (zs[i]'(by omega)).toNat).toNat : Int) = zs[i]'(by omega) := by
          simp only [UInt8.toNat_ofNat']
          omega
        unfold bV
        rw [this]
        exact .sc rfl
end Go.Proofs.Ytbnemkdkeaiaoaa

/- PROVED: for every input cordonlaw19.LexBlanks returns true, and its arguments read as before.  -/
namespace Go.Proofs.Ytbnemkdkeaiaoaa.lawLexBlanks
open Go.ChangeShapes Go.WideShapes Go.ChangeAt Go.RowKit Go.Joins
open Go.ChangeMaps (open_string shut_string)
set_option linter.unusedSimpArgs false
set_option linter.unusedVariables false

theorem own : ownKnob Try.prog.godebug = none := by kernel_rfl
theorem laidOut : laidOutB Try.prog = true := by kernel_rfl
theorem u8cells : Try.prog.cellsOf 5 = 1 := by kernel_rfl

set_option maxRecDepth 100000 in
theorem lifted (os : Os) (started : os.Started) (H : Type) (enc : TypeId × Value → H) :
    ReturnsInHanded {} Try.checked os 4 .any (Rows.lexBlanksSpec.pre6 enc Try.prog Try.f4 Rows.lexBlanksRow.domain false) (Rows.lexBlanksSpec.post enc Try.prog Try.f4 false true false false) := by
  refine returnsInHanded_of_change (C := Try.checked) own started (by kernel_rfl) Try.func4
    (ChangeSpec.witness6 (enc := enc) (C := Try.checked) false ⟨#[], #[.slice none 0 0, .int .i64 0], []⟩ 8 (by kernel_rfl) (by kernel_rfl) (by kernel_rfl) (by kernel_rfl)) ?_
  intro W base args ds gs before hval0 hW hcnd _
  have hval : ∀ (j : Nat) t v, Try.f4.params[j]? = some t → args[j]? = some v → Value.okWide Try.prog W .any base t v := hval0
  have hW' := hW
  obtain ⟨p, q, hA0, hV, rfl, hfz, hnd⟩ := hW
  have hA : DataW.TrodAll enc Try.prog W 0 (fun _ => true) true Try.f4.params.toList args.toList ds p := hA0
  rw [Try.params4] at hA hval
  obtain ⟨v0, vs0, d0, ds0, p0, q0, hargs, rfl, rfl, h0, r0⟩ := trodAll_cons hA
  obtain ⟨v1, vs1, d1, ds1, p1, q1, rfl, rfl, rfl, h1, r1⟩ := trodAll_cons r0
  obtain ⟨rfl, rfl, rfl⟩ := trodAll_nil r1
  obtain rfl : args = #[v0, v1] := by cases args; simp_all
  obtain ⟨rfl, rfl⟩ := trodVars_none hV
  have k0 := h0
  have lt0 : ∀ x ∈ p0, x.block < W.heap.size := by obtain ⟨m, hm⟩ := k0; exact DataW.trod_lt m _ _ _ hm
  have k1 := h1
  have lt1 : ∀ x ∈ p1, x.block < W.heap.size := by obtain ⟨m, hm⟩ := k1; exact DataW.trod_lt m _ _ _ hm
  have hwalk : Calls Try.prog 4 #[v0, v1] W fun e w' => e = .returned (.bool true) ∧ Below W.heap.size W w' := by
    obtain ⟨l0, hl00, hr0⟩ := open_roB Try.underlying28 Try.underlying5 u8cells (hval 0 28 v0 rfl rfl) h0
    have hl0 : l0.length ≤ 9223372036854775807 := by unfold maxLen at hl00; exact hl00
    obtain ⟨n1, rfl, rfl, rfl, hn10⟩ := open_int Try.underlying3 (hval 1 3 v1 rfl rfl) h1
    have hn1 := bounds_i64 hn10
    exact VCall.law (lexBlanks_walk l0 n1 hn1.1 hn1.2) W #[v0, .int .i64 n1] (Pw.cons hr0 (Pw.cons (.sc rfl) Pw.nil)) (fun _ _ _ _ _ _ => trivial)
  clear hA0 hval0
  refine hwalk.mono fun e W' ⟨he, bel⟩ => ?_
  subst he
  exact ⟨_, rfl, _, _, _, [], _, [], hW', trodAll_mk1 (shut_bool Try.underlying4 _), (trodAll_cons_mk (Below.trod laidOut (by kernel_rfl) (of_decide_eq_true (by kernel_rfl)) k0 bel lt0) (trodAll_cons_mk (Below.trod laidOut (by kernel_rfl) (of_decide_eq_true (by kernel_rfl)) k1 bel lt1) trodAll_mk0)), rfl, bel.frame _, fun h => by cases h⟩

theorem over : Rows.lexBlanksRow.holds Try.pinned (OpenSpec.ofChange Rows.lexBlanksSpec) :=
  OpenClaim.holds_of_wide 4 Try.f4 rfl rfl rfl rfl rfl rfl rfl ⟨rfl, rfl, rfl, rfl, rfl⟩ rfl rfl rfl rfl rfl (by kernel_rfl) Try.func4 (by kernel_rfl)
    (of_decide_eq_true (by kernel_rfl)) (by unfold Func.isWrapper; first | (rw [if_pos (by decide +kernel)]; kernel_rfl) | (rw [if_neg (by decide +kernel)]; exact ⟨rfl, rfl⟩))
    (fun os started H enc _ => lifted os started H enc)

/-- The statement. -/
theorem proved : Rows.LexBlanksSaid := over
#print axioms proved
end Go.Proofs.Ytbnemkdkeaiaoaa.lawLexBlanks

