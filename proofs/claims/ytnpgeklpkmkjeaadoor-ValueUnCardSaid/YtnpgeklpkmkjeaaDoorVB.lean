/- The comparisons and sums of value and cordonref21. -/
import Derived.Test.YtnpgeklpkmkjeaaDoorVA
import Derived.Deep.QuietTactic
import Derived.BigQuiet
import Derived.Deep.RegionHeld3
import Derived.Deep.DrawnRows
import Derived.Lib.Hide
namespace Go.Proofs.YtnpgeklpkmkjeaaDoor
open Go.RowKit
set_option linter.unusedSimpArgs false
set_option linter.unusedVariables false
set_option maxHeartbeats 400000
attribute [local go_sem ↓] Go.wp_at_zero Go.wp_at_succ

def orZ (x y : Int) : Int := if x = 0 then y else x
theorem or_two (x y : Int) (g cap : Nat) (w : World) (h0 : w.cell? ⟨g, 0, none⟩ = some (.int .i64 x)) (h1 : w.cell? ⟨g, 1, none⟩ = some (.int .i64 y)) :
    Calls Tryd.prog 33 #[.slice (some ⟨g, 0, none⟩) 2 cap] w fun e w' => e = .returned (.int .i64 (orZ x y)) ∧ w = w' := by
  unfold orZ
  go_enter Tryd.func33, Tryd.ntmps33
  go_wp2_with fail
  go_loop [8] (fun i => (i = .int .i64 0) ∨ (i = .int .i64 1 ∧ x = 0) ∨ (i = .int .i64 2 ∧ x = 0 ∧ y = 0)) (fun i => 2 - (intOf i).toNat)
  case atStart => exact .inl rfl
  case round =>
    rcases hrel with rfl | ⟨rfl, hx⟩ | ⟨rfl, hx, hy⟩
    · by_cases hx : x = 0
      · subst hx
        go_wp2_with fail
        go_round
        case rel => exact .inr (.inl ⟨rfl, by simp⟩)
        case measure => simp [intOf]
      · go_wp2_with fail
        go_ret
        exact ⟨by simp [hx], rfl⟩
    · subst hx
      by_cases hy : y = 0
      · subst hy
        go_wp2_with fail
        go_round
        case rel => exact .inr (.inr ⟨rfl, by simp, by simp⟩)
        case measure => simp [intOf]
      · go_wp2_with fail
        go_ret
        exact ⟨by simp, rfl⟩
    · subst hx hy
      go_wp2_with fail
      go_ret
      exact ⟨by simp, rfl⟩

theorem holds_lt (c : Int) (w : World) : Calls Tryd.prog 29 #[.string ⟨#[60]⟩, .int .i64 c] w fun e w' => e = .returned (.bool (decide (c < 0))) ∧ w = w' := by
  go_enter Tryd.func29, Tryd.ntmps29
  go_wp2_with fail
  go_ret
  exact ⟨rfl, rfl⟩
theorem holds_le (c : Int) (w : World) : Calls Tryd.prog 29 #[.string ⟨#[60, 61]⟩, .int .i64 c] w fun e w' => e = .returned (.bool (decide (c ≤ 0))) ∧ w = w' := by
  go_enter Tryd.func29, Tryd.ntmps29
  go_wp2_with fail
  go_ret
  exact ⟨rfl, rfl⟩
theorem holds_gt (c : Int) (w : World) : Calls Tryd.prog 29 #[.string ⟨#[62]⟩, .int .i64 c] w fun e w' => e = .returned (.bool (decide (0 < c))) ∧ w = w' := by
  go_enter Tryd.func29, Tryd.ntmps29
  go_wp2_with fail
  go_ret
  exact ⟨rfl, rfl⟩
theorem holds_ge (c : Int) (w : World) : Calls Tryd.prog 29 #[.string ⟨#[62, 61]⟩, .int .i64 c] w fun e w' => e = .returned (.bool (decide (0 ≤ c))) ∧ w = w' := by
  go_enter Tryd.func29, Tryd.ntmps29
  go_wp2_with fail
  go_ret
  exact ⟨rfl, rfl⟩

theorem order_kind (k1 k2 m n : Int) (s t : ByteArray) (w : World) (h : ¬ k1 = k2 ∨ (¬ k1 = 1 ∧ ¬ k1 = 2)) :
    Calls Tryd.prog 28 #[.agg #[.int .i64 k1, .int .i64 m, .string s], .agg #[.int .i64 k2, .int .i64 n, .string t]] w fun e w' => e = .returned (.tuple #[.int .i64 0, .int .i64 10]) ∧ Below w.heap.size w w' := by
  by_cases h1 : k1 = k2
  · subst h1
    obtain ⟨a, b⟩ := h.resolve_left (fun f => f rfl)
    have a' : (k1 != 1) = true := by simpa using a
    have b' : (k1 != 2) = true := by simpa using b
    clear h a b
    go_enter Tryd.func28, Tryd.ntmps28
    go_wp2_with fail
    go_ret2
    exact ⟨rfl, (below_one _ _).alloc (by simp) _⟩
  · have a' : (k1 != k2) = true := by simpa using h1
    clear h
    go_enter Tryd.func28, Tryd.ntmps28
    go_wp2_with fail
    go_ret2
    exact ⟨rfl, (below_one _ _).alloc (by simp) _⟩
theorem order_num (m n : Int) (s : ByteArray) (w : World) :
    Calls Tryd.prog 28 #[.agg #[.int .i64 1, .int .i64 m, .string s], .agg #[.int .i64 1, .int .i64 n, .string s]] w fun e w' => e = .returned (.tuple #[.int .i64 (cmpI m n), .int .i64 0]) ∧ Below w.heap.size w w' := by
  go_enter Tryd.func28, Tryd.ntmps28
  go_wp2_with fail
  go_region_held3 (fun w' => w'.cell? ⟨w.heap.size, 1, none⟩ = some (.int .i64 m) ∧ w'.cell? ⟨w.heap.size, 2, none⟩ = some (.string s) ∧ w'.cell? ⟨w.heap.size + 1, 1, none⟩ = some (.int .i64 n) ∧ w'.cell? ⟨w.heap.size + 1, 2, none⟩ = some (.string s)) (go_keep)
    (first | (go_at_call 34; refine (cmpI_any _ _ _).mono ?_; rintro e w' ⟨rfl, rfl⟩) | (go_at_call 35; refine (cmpS_any _ _ _).mono ?_; rintro e w' ⟨rfl, rfl⟩) | (go_at_call 33; refine (or_two (cmpI m n) (cmpS s s) _ _ _ ?_ ?_).mono ?_; (simp [go_sem]); (simp [go_sem]); rintro e w' ⟨rfl, rfl⟩))
  go_wp2_with fail
  go_ret2
  refine ⟨?_, ?_⟩
  · have hz : orZ (cmpI m n) (cmpS s s) = cmpI m n := by rw [cmpS_self]; unfold orZ; split <;> simp [*]
    simp [hz]
  · (repeat (first | exact Below.refl _ _ | exact below_one _ _ | refine Below.drew ?_ | refine Below.alloc ?_ (by first | (simp; done) | (simp; omega) | omega) _ | refine Below.setCell ?_ (by first | (simp; done) | (simp; omega) | omega) _ | refine Below.trans ?_ (Below.mono (by assumption) (by first | (simp; done) | (simp; omega) | omega))))
theorem order_txt (m : Int) (s t : ByteArray) (w : World) :
    Calls Tryd.prog 28 #[.agg #[.int .i64 2, .int .i64 m, .string s], .agg #[.int .i64 2, .int .i64 m, .string t]] w fun e w' => e = .returned (.tuple #[.int .i64 (cmpS s t), .int .i64 0]) ∧ Below w.heap.size w w' := by
  go_enter Tryd.func28, Tryd.ntmps28
  go_wp2_with fail
  go_region_held3 (fun w' => w'.cell? ⟨w.heap.size, 1, none⟩ = some (.int .i64 m) ∧ w'.cell? ⟨w.heap.size, 2, none⟩ = some (.string s) ∧ w'.cell? ⟨w.heap.size + 1, 1, none⟩ = some (.int .i64 m) ∧ w'.cell? ⟨w.heap.size + 1, 2, none⟩ = some (.string t)) (go_keep)
    (first | (go_at_call 34; refine (cmpI_any _ _ _).mono ?_; rintro e w' ⟨rfl, rfl⟩) | (go_at_call 35; refine (cmpS_any _ _ _).mono ?_; rintro e w' ⟨rfl, rfl⟩) | (go_at_call 33; refine (or_two (cmpI m m) (cmpS s t) _ _ _ ?_ ?_).mono ?_; (simp [go_sem]); (simp [go_sem]); rintro e w' ⟨rfl, rfl⟩))
  go_wp2_with fail
  go_ret2
  refine ⟨?_, ?_⟩
  · have hz : orZ (cmpI m m) (cmpS s t) = cmpS s t := by rw [cmpI_self]; unfold orZ; simp
    simp [hz]
  · (repeat (first | exact Below.refl _ _ | exact below_one _ _ | refine Below.drew ?_ | refine Below.alloc ?_ (by first | (simp; done) | (simp; omega) | omega) _ | refine Below.setCell ?_ (by first | (simp; done) | (simp; omega) | omega) _ | refine Below.trans ?_ (Below.mono (by assumption) (by first | (simp; done) | (simp; omega) | omega))))

/-- What a sum comes to: the value's parts and the error. -/
def sumV (op : List UInt8) (a b : Int) : Int :=
  if op = [43] then a + b else if op = [45] then a - b else if op = [42] then a * b else if op = [47] then a.tdiv b else a.tmod b

theorem sum_zero (op : ByteArray) (a : Int) (w : World) (h : op = ⟨#[47]⟩ ∨ op = ⟨#[37]⟩) :
    Calls Tryd.prog 30 #[.string op, .int .i64 a, .int .i64 0] w fun e w' => e = .returned (.tuple #[.agg #[.int .i64 0, .int .i64 0, .string ⟨#[]⟩], .int .i64 12]) ∧ Below w.heap.size w w' := by
  rcases h with rfl | rfl
  · go_enter Tryd.func30, Tryd.ntmps30
    go_wp2_with fail
    refine bodyPost_ret (v := (.tuple #[.agg #[.int .i64 0, .int .i64 0, .string ⟨#[]⟩], .int .i64 12])) (by simp [results, Tryd.results30, go_sem, true_and]) rfl ⟨rfl, ?_⟩; (repeat (first | exact Below.refl _ _ | exact below_one _ _ | refine Below.drew ?_ | refine Below.alloc ?_ (by first | (simp; done) | (simp; omega) | omega) _ | refine Below.setCell ?_ (by first | (simp; done) | (simp; omega) | omega) _ | refine Below.trans ?_ (Below.mono (by assumption) (by first | (simp; done) | (simp; omega) | omega))))
  · go_enter Tryd.func30, Tryd.ntmps30
    go_wp2_with fail
    refine bodyPost_ret (v := (.tuple #[.agg #[.int .i64 0, .int .i64 0, .string ⟨#[]⟩], .int .i64 12])) (by simp [results, Tryd.results30, go_sem, true_and]) rfl ⟨rfl, ?_⟩; (repeat (first | exact Below.refl _ _ | exact below_one _ _ | refine Below.drew ?_ | refine Below.alloc ?_ (by first | (simp; done) | (simp; omega) | omega) _ | refine Below.setCell ?_ (by first | (simp; done) | (simp; omega) | omega) _ | refine Below.trans ?_ (Below.mono (by assumption) (by first | (simp; done) | (simp; omega) | omega))))
theorem sum_plus_in (a b : Int) (w : World) (ha : -2147483648 ≤ a) (ha' : a ≤ 2147483648) (hb1 : -2147483648 ≤ b) (hb' : b ≤ 2147483648) (lo : -2147483648 ≤ a + b) (hi : a + b ≤ 2147483648) :     Calls Tryd.prog 30 #[.string ⟨#[43]⟩, .int .i64 a, .int .i64 b] w fun e w' => e = .returned (.tuple #[.agg #[.int .i64 1, .int .i64 (a + b), .string ⟨#[]⟩], .int .i64 0]) ∧ Below w.heap.size w w' := by {   cases hb0 : (b == 0); (focus (go_enter Tryd.func30, Tryd.ntmps30; go_wp2_with (go_at_call 18; refine (of_in _ _ (by first | omega | assumption) (by first | omega | assumption)).mono ?_; rintro e w' ⟨rfl, hb⟩; obtain ⟨hc, hf⟩ := bcell hb); all_goals (refine bodyPost_ret (v := (.tuple #[.agg #[.int .i64 1, .int .i64 (a + b), .string ⟨#[]⟩], .int .i64 0])) (by simp [results, Tryd.results30, go_sem, hc]) rfl ⟨rfl, ?_⟩; (repeat (first | exact Below.refl _ _ | exact below_one _ _ | refine Below.drew ?_ | refine Below.alloc ?_ (by first | (simp; done) | (simp; omega) | omega) _ | refine Below.setCell ?_ (by first | (simp; done) | (simp; omega) | omega) _ | refine Below.trans ?_ (Below.mono (by assumption) (by first | (simp; done) | (simp; omega) | omega))))))); (focus (go_enter Tryd.func30, Tryd.ntmps30; go_wp2_with (go_at_call 18; refine (of_in _ _ (by first | omega | assumption) (by first | omega | assumption)).mono ?_; rintro e w' ⟨rfl, hb⟩; obtain ⟨hc, hf⟩ := bcell hb); all_goals (refine bodyPost_ret (v := (.tuple #[.agg #[.int .i64 1, .int .i64 (a + b), .string ⟨#[]⟩], .int .i64 0])) (by simp [results, Tryd.results30, go_sem, hc]) rfl ⟨rfl, ?_⟩; (repeat (first | exact Below.refl _ _ | exact below_one _ _ | refine Below.drew ?_ | refine Below.alloc ?_ (by first | (simp; done) | (simp; omega) | omega) _ | refine Below.setCell ?_ (by first | (simp; done) | (simp; omega) | omega) _ | refine Below.trans ?_ (Below.mono (by assumption) (by first | (simp; done) | (simp; omega) | omega))))))) }
theorem sum_minus_in (a b : Int) (w : World) (ha : -2147483648 ≤ a) (ha' : a ≤ 2147483648) (hb1 : -2147483648 ≤ b) (hb' : b ≤ 2147483648) (lo : -2147483648 ≤ a - b) (hi : a - b ≤ 2147483648) :     Calls Tryd.prog 30 #[.string ⟨#[45]⟩, .int .i64 a, .int .i64 b] w fun e w' => e = .returned (.tuple #[.agg #[.int .i64 1, .int .i64 (a - b), .string ⟨#[]⟩], .int .i64 0]) ∧ Below w.heap.size w w' := by {   cases hb0 : (b == 0); (focus (go_enter Tryd.func30, Tryd.ntmps30; go_wp2_with (go_at_call 18; refine (of_in _ _ (by first | omega | assumption) (by first | omega | assumption)).mono ?_; rintro e w' ⟨rfl, hb⟩; obtain ⟨hc, hf⟩ := bcell hb); all_goals (refine bodyPost_ret (v := (.tuple #[.agg #[.int .i64 1, .int .i64 (a - b), .string ⟨#[]⟩], .int .i64 0])) (by simp [results, Tryd.results30, go_sem, hc]) rfl ⟨rfl, ?_⟩; (repeat (first | exact Below.refl _ _ | exact below_one _ _ | refine Below.drew ?_ | refine Below.alloc ?_ (by first | (simp; done) | (simp; omega) | omega) _ | refine Below.setCell ?_ (by first | (simp; done) | (simp; omega) | omega) _ | refine Below.trans ?_ (Below.mono (by assumption) (by first | (simp; done) | (simp; omega) | omega))))))); (focus (go_enter Tryd.func30, Tryd.ntmps30; go_wp2_with (go_at_call 18; refine (of_in _ _ (by first | omega | assumption) (by first | omega | assumption)).mono ?_; rintro e w' ⟨rfl, hb⟩; obtain ⟨hc, hf⟩ := bcell hb); all_goals (refine bodyPost_ret (v := (.tuple #[.agg #[.int .i64 1, .int .i64 (a - b), .string ⟨#[]⟩], .int .i64 0])) (by simp [results, Tryd.results30, go_sem, hc]) rfl ⟨rfl, ?_⟩; (repeat (first | exact Below.refl _ _ | exact below_one _ _ | refine Below.drew ?_ | refine Below.alloc ?_ (by first | (simp; done) | (simp; omega) | omega) _ | refine Below.setCell ?_ (by first | (simp; done) | (simp; omega) | omega) _ | refine Below.trans ?_ (Below.mono (by assumption) (by first | (simp; done) | (simp; omega) | omega))))))) }
theorem sum_times_in (a b : Int) (w : World) (ha : -2147483648 ≤ a) (ha' : a ≤ 2147483648) (hb1 : -2147483648 ≤ b) (hb' : b ≤ 2147483648) (lo : -2147483648 ≤ a * b) (hi : a * b ≤ 2147483648) :     Calls Tryd.prog 30 #[.string ⟨#[42]⟩, .int .i64 a, .int .i64 b] w fun e w' => e = .returned (.tuple #[.agg #[.int .i64 1, .int .i64 (a * b), .string ⟨#[]⟩], .int .i64 0]) ∧ Below w.heap.size w w' := by {   cases hb0 : (b == 0); (focus (go_enter Tryd.func30, Tryd.ntmps30; go_wp2_with (go_at_call 18; refine (of_in _ _ (by first | omega | assumption) (by first | omega | assumption)).mono ?_; rintro e w' ⟨rfl, hb⟩; obtain ⟨hc, hf⟩ := bcell hb); all_goals (refine bodyPost_ret (v := (.tuple #[.agg #[.int .i64 1, .int .i64 (a * b), .string ⟨#[]⟩], .int .i64 0])) (by simp [results, Tryd.results30, go_sem, hc]) rfl ⟨rfl, ?_⟩; (repeat (first | exact Below.refl _ _ | exact below_one _ _ | refine Below.drew ?_ | refine Below.alloc ?_ (by first | (simp; done) | (simp; omega) | omega) _ | refine Below.setCell ?_ (by first | (simp; done) | (simp; omega) | omega) _ | refine Below.trans ?_ (Below.mono (by assumption) (by first | (simp; done) | (simp; omega) | omega))))))); (focus (go_enter Tryd.func30, Tryd.ntmps30; go_wp2_with (go_at_call 18; refine (of_in _ _ (by first | omega | assumption) (by first | omega | assumption)).mono ?_; rintro e w' ⟨rfl, hb⟩; obtain ⟨hc, hf⟩ := bcell hb); all_goals (refine bodyPost_ret (v := (.tuple #[.agg #[.int .i64 1, .int .i64 (a * b), .string ⟨#[]⟩], .int .i64 0])) (by simp [results, Tryd.results30, go_sem, hc]) rfl ⟨rfl, ?_⟩; (repeat (first | exact Below.refl _ _ | exact below_one _ _ | refine Below.drew ?_ | refine Below.alloc ?_ (by first | (simp; done) | (simp; omega) | omega) _ | refine Below.setCell ?_ (by first | (simp; done) | (simp; omega) | omega) _ | refine Below.trans ?_ (Below.mono (by assumption) (by first | (simp; done) | (simp; omega) | omega))))))) }
theorem sum_plus_out (a b : Int) (w : World) (ha : -2147483648 ≤ a) (ha' : a ≤ 2147483648) (hb1 : -2147483648 ≤ b) (hb' : b ≤ 2147483648) (hl1 : -9223372036854775808 ≤ a + b) (hl2 : a + b ≤ 9223372036854775807) (lo : a + b < -2147483648 ∨ 2147483648 < a + b) :     Calls Tryd.prog 30 #[.string ⟨#[43]⟩, .int .i64 a, .int .i64 b] w fun e w' => e = .returned (.tuple #[.agg #[.int .i64 0, .int .i64 0, .string ⟨#[]⟩], .int .i64 13]) ∧ Below w.heap.size w w' := by {   cases hb0 : (b == 0); (have lo' := Lib.hid lo; clear lo; (focus (go_enter Tryd.func30, Tryd.ntmps30; go_wp2_with (go_at_call 18; refine (of_out _ _ lo'.out).mono ?_; rintro e w' ⟨rfl, hb⟩; obtain ⟨hc, hf⟩ := bcell hb); all_goals (refine bodyPost_ret (v := (.tuple #[.agg #[.int .i64 0, .int .i64 0, .string ⟨#[]⟩], .int .i64 13])) (by simp [results, Tryd.results30, go_sem, hc]) rfl ⟨rfl, ?_⟩; (repeat (first | exact Below.refl _ _ | exact below_one _ _ | refine Below.drew ?_ | refine Below.alloc ?_ (by first | (simp; done) | (simp; omega) | omega) _ | refine Below.setCell ?_ (by first | (simp; done) | (simp; omega) | omega) _ | refine Below.trans ?_ (Below.mono (by assumption) (by first | (simp; done) | (simp; omega) | omega)))))))); (exfalso; rw [beq_iff_eq] at hb0; rw [hb0] at lo; simp only [Int.add_zero] at lo; omega) }
theorem sum_minus_out (a b : Int) (w : World) (ha : -2147483648 ≤ a) (ha' : a ≤ 2147483648) (hb1 : -2147483648 ≤ b) (hb' : b ≤ 2147483648) (hl1 : -9223372036854775808 ≤ a - b) (hl2 : a - b ≤ 9223372036854775807) (lo : a - b < -2147483648 ∨ 2147483648 < a - b) :     Calls Tryd.prog 30 #[.string ⟨#[45]⟩, .int .i64 a, .int .i64 b] w fun e w' => e = .returned (.tuple #[.agg #[.int .i64 0, .int .i64 0, .string ⟨#[]⟩], .int .i64 13]) ∧ Below w.heap.size w w' := by {   cases hb0 : (b == 0); (have lo' := Lib.hid lo; clear lo; (focus (go_enter Tryd.func30, Tryd.ntmps30; go_wp2_with (go_at_call 18; refine (of_out _ _ lo'.out).mono ?_; rintro e w' ⟨rfl, hb⟩; obtain ⟨hc, hf⟩ := bcell hb); all_goals (refine bodyPost_ret (v := (.tuple #[.agg #[.int .i64 0, .int .i64 0, .string ⟨#[]⟩], .int .i64 13])) (by simp [results, Tryd.results30, go_sem, hc]) rfl ⟨rfl, ?_⟩; (repeat (first | exact Below.refl _ _ | exact below_one _ _ | refine Below.drew ?_ | refine Below.alloc ?_ (by first | (simp; done) | (simp; omega) | omega) _ | refine Below.setCell ?_ (by first | (simp; done) | (simp; omega) | omega) _ | refine Below.trans ?_ (Below.mono (by assumption) (by first | (simp; done) | (simp; omega) | omega)))))))); (exfalso; rw [beq_iff_eq] at hb0; rw [hb0] at lo; simp only [Int.sub_zero] at lo; omega) }
theorem sum_times_out (a b : Int) (w : World) (ha : -2147483648 ≤ a) (ha' : a ≤ 2147483648) (hb1 : -2147483648 ≤ b) (hb' : b ≤ 2147483648) (hl1 : -9223372036854775808 ≤ a * b) (hl2 : a * b ≤ 9223372036854775807) (lo : a * b < -2147483648 ∨ 2147483648 < a * b) :     Calls Tryd.prog 30 #[.string ⟨#[42]⟩, .int .i64 a, .int .i64 b] w fun e w' => e = .returned (.tuple #[.agg #[.int .i64 0, .int .i64 0, .string ⟨#[]⟩], .int .i64 13]) ∧ Below w.heap.size w w' := by {   cases hb0 : (b == 0); (have lo' := Lib.hid lo; clear lo; (focus (go_enter Tryd.func30, Tryd.ntmps30; go_wp2_with (go_at_call 18; refine (of_out _ _ lo'.out).mono ?_; rintro e w' ⟨rfl, hb⟩; obtain ⟨hc, hf⟩ := bcell hb); all_goals (refine bodyPost_ret (v := (.tuple #[.agg #[.int .i64 0, .int .i64 0, .string ⟨#[]⟩], .int .i64 13])) (by simp [results, Tryd.results30, go_sem, hc]) rfl ⟨rfl, ?_⟩; (repeat (first | exact Below.refl _ _ | exact below_one _ _ | refine Below.drew ?_ | refine Below.alloc ?_ (by first | (simp; done) | (simp; omega) | omega) _ | refine Below.setCell ?_ (by first | (simp; done) | (simp; omega) | omega) _ | refine Below.trans ?_ (Below.mono (by assumption) (by first | (simp; done) | (simp; omega) | omega)))))))); (exfalso; rw [beq_iff_eq] at hb0; rw [hb0] at lo; simp only [Int.mul_zero] at lo; omega) }
theorem sum_quo (a b : Int) (w : World) (ha : -2147483648 ≤ a) (ha' : a ≤ 2147483648) (hb1 : -2147483648 ≤ b) (hb' : b ≤ 2147483648) (hz : ¬ b = 0) (lo : -2147483648 ≤ a.tdiv b) (hi : a.tdiv b ≤ 2147483648) :
    Calls Tryd.prog 30 #[.string ⟨#[47]⟩, .int .i64 a, .int .i64 b] w fun e w' => e = .returned (.tuple #[.agg #[.int .i64 1, .int .i64 (a.tdiv b), .string ⟨#[]⟩], .int .i64 0]) ∧ Below w.heap.size w w' := by
  (focus (go_enter Tryd.func30, Tryd.ntmps30; go_wp2_with (go_at_call 18; refine (of_in _ _ (by omega) (by omega)).mono ?_; rintro e w' ⟨rfl, hb⟩; obtain ⟨hc, hf⟩ := bcell hb); all_goals (refine bodyPost_ret (v := (.tuple #[.agg #[.int .i64 1, .int .i64 (a.tdiv b), .string ⟨#[]⟩], .int .i64 0])) (by simp [results, Tryd.results30, go_sem, hc]) rfl ⟨rfl, ?_⟩; (repeat (first | exact Below.refl _ _ | exact below_one _ _ | refine Below.drew ?_ | refine Below.alloc ?_ (by first | (simp; done) | (simp; omega) | omega) _ | refine Below.setCell ?_ (by first | (simp; done) | (simp; omega) | omega) _ | refine Below.trans ?_ (Below.mono (by assumption) (by first | (simp; done) | (simp; omega) | omega)))))))
theorem sum_rem (a b : Int) (w : World) (ha : -2147483648 ≤ a) (ha' : a ≤ 2147483648) (hb1 : -2147483648 ≤ b) (hb' : b ≤ 2147483648) (hz : ¬ b = 0) (lo : -2147483648 ≤ a.tmod b) (hi : a.tmod b ≤ 2147483648) :
    Calls Tryd.prog 30 #[.string ⟨#[37]⟩, .int .i64 a, .int .i64 b] w fun e w' => e = .returned (.tuple #[.agg #[.int .i64 1, .int .i64 (a.tmod b), .string ⟨#[]⟩], .int .i64 0]) ∧ Below w.heap.size w w' := by
  (focus (go_enter Tryd.func30, Tryd.ntmps30; go_wp2_with (go_at_call 18; refine (of_in _ _ (by omega) (by omega)).mono ?_; rintro e w' ⟨rfl, hb⟩; obtain ⟨hc, hf⟩ := bcell hb); all_goals (refine bodyPost_ret (v := (.tuple #[.agg #[.int .i64 1, .int .i64 (a.tmod b), .string ⟨#[]⟩], .int .i64 0])) (by simp [results, Tryd.results30, go_sem, hc]) rfl ⟨rfl, ?_⟩; (repeat (first | exact Below.refl _ _ | exact below_one _ _ | refine Below.drew ?_ | refine Below.alloc ?_ (by first | (simp; done) | (simp; omega) | omega) _ | refine Below.setCell ?_ (by first | (simp; done) | (simp; omega) | omega) _ | refine Below.trans ?_ (Below.mono (by assumption) (by first | (simp; done) | (simp; omega) | omega)))))))
end Go.Proofs.YtnpgeklpkmkjeaaDoor
