/- Show: what a value shows, and what the document's value shows. -/
import Derived.Test.YtnpgeklpkmkjeaaDoorVA
import Derived.Test.YtnpgeklpkmkjeaaDoorSt
import Derived.Test.YtnpgeklpkmkjeaaDoorShelf
import Derived.Lib.AppendIntMem
namespace Go.Proofs.YtnpgeklpkmkjeaaDoor
open Go.RowKit
set_option linter.unusedSimpArgs false
set_option linter.unusedVariables false
set_option maxHeartbeats 400000
set_option maxRecDepth 100000

/-- What a value shows. -/
def showB (k n : Int) (s : ByteArray) : ByteArray :=
  if k = 1 then ⟨(Lib.itoa n).toArray⟩ else if k = 2 then s else if k = 3 then ⟨#[98, 108, 111, 98]⟩ else ⟨#[110, 105, 108]⟩

theorem ret_str {a b : ByteArray} (h : a = b) : Ending.returned (.string a) = .returned (.string b) := by rw [h]
theorem dig1 : ∀ i : Fin 10, (⟨#[48, 49, 50, 51, 52, 53, 54, 55, 56, 57]⟩ : ByteArray).extract i.val (i.val + 1) = ⟨(Lib.decDigits i.val).toArray⟩ := by
  intro i
  rw [Lib.decDigits_one i.isLt]
  revert i
  decide +kernel
theorem dec_len (u : Nat) : (Lib.decDigits u).length ≤ u + 1 := by
  induction u using Nat.strongRecOn with
  | ind u ih =>
    by_cases h : u < 10
    · rw [Lib.decDigits_one h]; simp
    · rw [Lib.decDigits, dif_neg h, List.length_append]
      have := ih (u / 10) (by omega)
      simp; omega
theorem dec_step (u : Nat) (h : ¬ u < 10) : (⟨(Lib.decDigits (u / 10)).toArray⟩ : ByteArray) ++ ⟨(Lib.decDigits (u % 10)).toArray⟩ = ⟨(Lib.decDigits u).toArray⟩ := by
  have e : Lib.decDigits u = Lib.decDigits (u / 10) ++ Lib.decDigits (u % 10) := by
    rw [Lib.decDigits, dif_neg h, Lib.decDigits_one (i := u % 10) (by omega)]
  apply tl_inj
  rw [tl_data, tl_data, e]
  simp
theorem name_nil (w : World) : Calls Tryd.prog 26 #[.int .i64 0] w fun e w' => e = .returned (.string ⟨#[110, 105, 108]⟩) ∧ w = w' := by
  have i0 : ∀ w, (Instr.index 62 (.agg #[.string ⟨#[110, 105, 108]⟩, .string ⟨#[110, 117, 109, 98, 101, 114]⟩, .string ⟨#[116, 101, 120, 116]⟩, .string ⟨#[98, 108, 111, 98]⟩]) (.int .i64 0)).run Tryd.prog w = .ok (.string ⟨#[110, 105, 108]⟩) w := fun _ => by kernel_rfl
  go_enter Tryd.func26, Tryd.ntmps26
  go_wp2_with fail
  go_outline
  go_ret
  exact ⟨rfl, rfl⟩
theorem name_blob (w : World) : Calls Tryd.prog 26 #[.int .i64 3] w fun e w' => e = .returned (.string ⟨#[98, 108, 111, 98]⟩) ∧ w = w' := by
  have i0 : ∀ w, (Instr.index 62 (.agg #[.string ⟨#[110, 105, 108]⟩, .string ⟨#[110, 117, 109, 98, 101, 114]⟩, .string ⟨#[116, 101, 120, 116]⟩, .string ⟨#[98, 108, 111, 98]⟩]) (.int .i64 3)).run Tryd.prog w = .ok (.string ⟨#[98, 108, 111, 98]⟩) w := fun _ => by kernel_rfl
  go_enter Tryd.func26, Tryd.ntmps26
  go_wp2_with fail
  go_ret
  exact ⟨rfl, rfl⟩

theorem grow_below (w : World) (k : Nat) (os : Array Obj) : Below w.heap.size w (Sort.grow (w.drewN k) os) := by
  refine ⟨rfl, rfl, rfl, ?_, fun j hj => ?_⟩
  · show w.heap.size ≤ (w.heap ++ os).size
    simp
  · show (w.heap ++ os)[j]? = w.heap[j]?
    rw [Array.getElem?_append_left hj]

/-- The table that Itoa reads. -/
def Tab (w : World) : Prop := Lib.TabIs Tryd.prog w "internal/strconv.uint64pow10" .u64 Lib.pow10Tab
theorem Tab.below {w w' : World} (h : Tab w) (hb : Below w.heap.size w w') : Tab w' := (Lib.tabBelow_of_tabIs h) w' hb

theorem itoa_any (n : Int) (h0 : -9223372036854775808 ≤ n) (h1 : n ≤ 9223372036854775807) (w : World) (ht : Tab w) :
    Calls Tryd.prog 25 #[.int .i64 n] w fun e w' => e = .returned (.string ⟨(Lib.itoa n).toArray⟩) ∧ Below w.heap.size w w' :=
  (Tryd.strconv_Itoa n h0 h1 w ht).mono fun e w' ⟨he, k, os, hw⟩ => ⟨he, hw ▸ grow_below w k os⟩

theorem show_any (k n : Int) (s : ByteArray) (v : VOk k n s) (w0 : World) (ht : Tab w0) :
    Calls Tryd.prog 15 #[.agg #[.int .i64 k, .int .i64 n, .string s]] w0 fun e w' => e = .returned (.string (showB k n s)) ∧ Below w0.heap.size w0 w' := by
  have HT := Lib.hid ht
  clear ht
  rcases v with ⟨rfl, rfl, rfl⟩ | ⟨rfl, h1, h2, rfl⟩ | ⟨rfl, rfl, hs⟩ | ⟨rfl, hn, rfl⟩
  · (have hst := St.init w0; have fc : True := trivial)
    go_enter Tryd.func15, Tryd.ntmps15
    go_wp2_with (first | ((with_reducible refine isBox ?_); (first | refine hst.l_boxA (by rfl) _ _ (by rfl) _ (by rfl) ?_ | refine hst.l_box1 (by rfl) _ _ (by rfl) _ (by rfl) (by rfl) ?_ | fail); (clear hst fc; intro bk w hN hst; (simp only [Act.eval, Array.getD_eq_getD_getElem?, List.getElem?_toArray, List.getElem?_cons_succ, List.getElem?_cons_zero, Option.getD_some, Value.cells, List.toList_toArray, setL, List.set_cons_succ, List.set_cons_zero] at hst); (have fc := hst.facts; simp only [Facts] at fc); (simp only [Act.put, List.setIfInBounds_toArray, List.set_cons_succ, List.set_cons_zero]))) | (go_at_call 26; (with_reducible refine (name_nil _).mono ?_); rintro e w ⟨rfl, rfl⟩) | fail)
    go_ret
    exact ⟨rfl, hst.below⟩
  · have e : showB 1 n ⟨#[]⟩ = ⟨(Lib.itoa n).toArray⟩ := rfl
    rw [e]
    clear e
    (have hst := St.init w0; have fc : True := trivial)
    go_enter Tryd.func15, Tryd.ntmps15
    go_wp2_with (first | ((with_reducible refine isBox ?_); (first | refine hst.l_boxA (by rfl) _ _ (by rfl) _ (by rfl) ?_ | refine hst.l_box1 (by rfl) _ _ (by rfl) _ (by rfl) (by rfl) ?_ | fail); (clear hst fc; intro bk w hN hst; (simp only [Act.eval, Array.getD_eq_getD_getElem?, List.getElem?_toArray, List.getElem?_cons_succ, List.getElem?_cons_zero, Option.getD_some, Value.cells, List.toList_toArray, setL, List.set_cons_succ, List.set_cons_zero] at hst); (have fc := hst.facts; simp only [Facts] at fc); (simp only [Act.put, List.setIfInBounds_toArray, List.set_cons_succ, List.set_cons_zero]))) | (go_at_call 25; refine (itoa_any _ (by omega) (by omega) _ (HT.out.below hst.below)).mono ?_; rintro e w ⟨rfl, hb⟩; replace hst := hst.call hb; clear fc hb; (have fc := hst.facts; simp only [Facts] at fc)) | fail)
    go_ret
    exact ⟨rfl, hst.below⟩
  · have e : showB 2 0 s = s := rfl
    rw [e]
    clear e
    (have hst := St.init w0; have fc : True := trivial)
    go_enter Tryd.func15, Tryd.ntmps15
    go_wp2_with (first | ((with_reducible refine isBox ?_); (first | refine hst.l_boxA (by rfl) _ _ (by rfl) _ (by rfl) ?_ | refine hst.l_box1 (by rfl) _ _ (by rfl) _ (by rfl) (by rfl) ?_ | fail); (clear hst fc; intro bk w hN hst; (simp only [Act.eval, Array.getD_eq_getD_getElem?, List.getElem?_toArray, List.getElem?_cons_succ, List.getElem?_cons_zero, Option.getD_some, Value.cells, List.toList_toArray, setL, List.set_cons_succ, List.set_cons_zero] at hst); (have fc := hst.facts; simp only [Facts] at fc); (simp only [Act.put, List.setIfInBounds_toArray, List.set_cons_succ, List.set_cons_zero]))) | fail)
    go_ret
    exact ⟨rfl, hst.below⟩
  · (have hst := St.init w0; have fc : True := trivial)
    go_enter Tryd.func15, Tryd.ntmps15
    go_wp2_with (first | ((with_reducible refine isBox ?_); (first | refine hst.l_boxA (by rfl) _ _ (by rfl) _ (by rfl) ?_ | refine hst.l_box1 (by rfl) _ _ (by rfl) _ (by rfl) (by rfl) ?_ | fail); (clear hst fc; intro bk w hN hst; (simp only [Act.eval, Array.getD_eq_getD_getElem?, List.getElem?_toArray, List.getElem?_cons_succ, List.getElem?_cons_zero, Option.getD_some, Value.cells, List.toList_toArray, setL, List.set_cons_succ, List.set_cons_zero] at hst); (have fc := hst.facts; simp only [Facts] at fc); (simp only [Act.put, List.setIfInBounds_toArray, List.set_cons_succ, List.set_cons_zero]))) | (go_at_call 26; (with_reducible refine (name_blob _).mono ?_); rintro e w ⟨rfl, rfl⟩) | fail)
    go_ret
    exact ⟨rfl, hst.below⟩

theorem digits_any (k : Nat) : ∀ (n : Int) (w : World), n.toNat ≤ k → 0 ≤ n → n ≤ 9223372036854775807 →
    Calls Tryd.prog 27 #[.int .i64 n] w fun e w' => e = .returned (.string ⟨(Lib.decDigits n.toNat).toArray⟩) ∧ w = w' := by
  induction k with
  | zero =>
    intro n w hk h0 _
    have hn : n = 0 := by omega
    subst hn
    go_enter Tryd.func27, Tryd.ntmps27
    go_wp2_with fail
    go_ret
    exact ⟨ret_str (dig1 0), rfl⟩
  | succ k ih =>
    intro n w hk h0 hm
    have IH := Lib.hid ih
    clear ih
    by_cases h10 : n < 10
    · go_enter Tryd.func27, Tryd.ntmps27
      go_wp2_with fail
      go_ret
      have e := dig1 ⟨n.toNat, by omega⟩
      have e2 : n.toNat + 1 = (n + 1).toNat := by omega
      exact ⟨ret_str (by rw [← e2]; exact e), rfl⟩
    · have b1 := dec_len (n / 10).toNat
      have b2 := dec_len (n % 10).toNat
      have b3 : (n / 10).toNat = n.toNat / 10 := by omega
      have b4 : (n % 10).toNat = n.toNat % 10 := by omega
      have D := dec_step n.toNat (by omega)
      rw [← b3, ← b4] at D
      have DD := Lib.hid D
      have hl : (Lib.decDigits (n / 10).toNat).length + (Lib.decDigits (n % 10).toNat).length ≤ 9223372036854775807 := by omega
      clear D b1 b2 b3 b4
      go_enter Tryd.func27, Tryd.ntmps27
      go_wp2_with (go_at_call 27; refine (IH.out _ _ (by omega) (by omega) (by omega)).mono ?_; rintro e w' ⟨rfl, rfl⟩)
      go_ret
      exact ⟨ret_str DD.out, rfl⟩

theorem rshow_any (k n : Int) (s : ByteArray) (v : VOk k n s) (w0 : World) :
    Calls Tryd.prog 16 #[.agg #[.int .i64 k, .int .i64 n, .string s]] w0 fun e w' => e = .returned (.string (showB k n s)) ∧ Below w0.heap.size w0 w' := by
  rcases v with ⟨rfl, rfl, rfl⟩ | ⟨rfl, h1, h2, rfl⟩ | ⟨rfl, rfl, hs⟩ | ⟨rfl, hn, rfl⟩
  · (have hst := St.init w0; have fc : True := trivial)
    go_enter Tryd.func16, Tryd.ntmps16
    go_wp2_with (first | ((with_reducible refine isBox ?_); (first | refine hst.l_boxA (by rfl) _ _ (by rfl) _ (by rfl) ?_ | refine hst.l_box1 (by rfl) _ _ (by rfl) _ (by rfl) (by rfl) ?_ | fail); (clear hst fc; intro bk w hN hst; (simp only [Act.eval, Array.getD_eq_getD_getElem?, List.getElem?_toArray, List.getElem?_cons_succ, List.getElem?_cons_zero, Option.getD_some, Value.cells, List.toList_toArray, setL, List.set_cons_succ, List.set_cons_zero] at hst); (have fc := hst.facts; simp only [Facts] at fc); (simp only [Act.put, List.setIfInBounds_toArray, List.set_cons_succ, List.set_cons_zero]))) | fail)
    go_ret
    exact ⟨rfl, hst.below⟩
  · by_cases hneg : n < 0
    · have e : showB 1 n ⟨#[]⟩ = (⟨#[45]⟩ : ByteArray) ++ ⟨(Lib.decDigits (-n).toNat).toArray⟩ := by
        have : showB 1 n ⟨#[]⟩ = ⟨(Lib.itoa n).toArray⟩ := rfl
        rw [this, Lib.itoa, if_pos hneg, show n.natAbs = (-n).toNat by omega]
        apply tl_inj
        rw [tl_data, tl_data]
        simp
      have E := Lib.hid e
      have hl := dec_len (-n).toNat
      have hl2 : (Lib.decDigits (-n).toNat).length ≤ 9223372036854775800 := by omega
      clear e hl
      rw [E.out]
      (have hst := St.init w0; have fc : True := trivial)
      go_enter Tryd.func16, Tryd.ntmps16
      go_wp2_with (first | ((with_reducible refine isBox ?_); (first | refine hst.l_boxA (by rfl) _ _ (by rfl) _ (by rfl) ?_ | refine hst.l_box1 (by rfl) _ _ (by rfl) _ (by rfl) (by rfl) ?_ | fail); (clear hst fc; intro bk w hN hst; (simp only [Act.eval, Array.getD_eq_getD_getElem?, List.getElem?_toArray, List.getElem?_cons_succ, List.getElem?_cons_zero, Option.getD_some, Value.cells, List.toList_toArray, setL, List.set_cons_succ, List.set_cons_zero] at hst); (have fc := hst.facts; simp only [Facts] at fc); (simp only [Act.put, List.setIfInBounds_toArray, List.set_cons_succ, List.set_cons_zero]))) | (go_at_call 27; refine (digits_any (-n).toNat _ _ (by omega) (by omega) (by omega)).mono ?_; rintro e w ⟨rfl, rfl⟩) | fail)
      go_ret
      exact ⟨rfl, hst.below⟩
    · have e : showB 1 n ⟨#[]⟩ = ⟨(Lib.decDigits n.toNat).toArray⟩ := by
        have : showB 1 n ⟨#[]⟩ = ⟨(Lib.itoa n).toArray⟩ := rfl
        rw [this, Lib.itoa, if_neg hneg]
      rw [e]
      clear e
      (have hst := St.init w0; have fc : True := trivial)
      go_enter Tryd.func16, Tryd.ntmps16
      go_wp2_with (first | ((with_reducible refine isBox ?_); (first | refine hst.l_boxA (by rfl) _ _ (by rfl) _ (by rfl) ?_ | refine hst.l_box1 (by rfl) _ _ (by rfl) _ (by rfl) (by rfl) ?_ | fail); (clear hst fc; intro bk w hN hst; (simp only [Act.eval, Array.getD_eq_getD_getElem?, List.getElem?_toArray, List.getElem?_cons_succ, List.getElem?_cons_zero, Option.getD_some, Value.cells, List.toList_toArray, setL, List.set_cons_succ, List.set_cons_zero] at hst); (have fc := hst.facts; simp only [Facts] at fc); (simp only [Act.put, List.setIfInBounds_toArray, List.set_cons_succ, List.set_cons_zero]))) | (go_at_call 27; refine (digits_any n.toNat _ _ (by omega) (by omega) (by omega)).mono ?_; rintro e w ⟨rfl, rfl⟩) | fail)
      go_ret
      exact ⟨rfl, hst.below⟩
  · have e : showB 2 0 s = s := rfl
    rw [e]
    clear e
    (have hst := St.init w0; have fc : True := trivial)
    go_enter Tryd.func16, Tryd.ntmps16
    go_wp2_with (first | ((with_reducible refine isBox ?_); (first | refine hst.l_boxA (by rfl) _ _ (by rfl) _ (by rfl) ?_ | refine hst.l_box1 (by rfl) _ _ (by rfl) _ (by rfl) (by rfl) ?_ | fail); (clear hst fc; intro bk w hN hst; (simp only [Act.eval, Array.getD_eq_getD_getElem?, List.getElem?_toArray, List.getElem?_cons_succ, List.getElem?_cons_zero, Option.getD_some, Value.cells, List.toList_toArray, setL, List.set_cons_succ, List.set_cons_zero] at hst); (have fc := hst.facts; simp only [Facts] at fc); (simp only [Act.put, List.setIfInBounds_toArray, List.set_cons_succ, List.set_cons_zero]))) | fail)
    go_ret
    exact ⟨rfl, hst.below⟩
  · (have hst := St.init w0; have fc : True := trivial)
    go_enter Tryd.func16, Tryd.ntmps16
    go_wp2_with (first | ((with_reducible refine isBox ?_); (first | refine hst.l_boxA (by rfl) _ _ (by rfl) _ (by rfl) ?_ | refine hst.l_box1 (by rfl) _ _ (by rfl) _ (by rfl) (by rfl) ?_ | fail); (clear hst fc; intro bk w hN hst; (simp only [Act.eval, Array.getD_eq_getD_getElem?, List.getElem?_toArray, List.getElem?_cons_succ, List.getElem?_cons_zero, Option.getD_some, Value.cells, List.toList_toArray, setL, List.set_cons_succ, List.set_cons_zero] at hst); (have fc := hst.facts; simp only [Facts] at fc); (simp only [Act.put, List.setIfInBounds_toArray, List.set_cons_succ, List.set_cons_zero]))) | fail)
    go_ret
    exact ⟨rfl, hst.below⟩
end Go.Proofs.YtnpgeklpkmkjeaaDoor
