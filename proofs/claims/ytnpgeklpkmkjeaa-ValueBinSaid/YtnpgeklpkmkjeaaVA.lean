/- The leaf functions of value and cordonref21: one contract each, for every argument in range. -/
import Derived.Test.YtnpgeklpkmkjeaaVPl
import Derived.WalkKit
import Derived.WalkSpells
import Derived.WalkLawsBesides
import Derived.Deep.QuietTactic
import Derived.BigQuiet
import Derived.StillTailTactics
namespace Go.Proofs.Ytnpgeklpkmkjeaa
open Go.RowKit
set_option linter.unusedSimpArgs false
set_option linter.unusedVariables false

theorem below_one (w : World) (o : Obj) : Below w.heap.size w (w.alloc o) := (Below.refl _ _).alloc (Nat.le_refl _) _
theorem bcell {W w1 : World} (hb : Below W.heap.size W w1) : (∀ b o, b < W.heap.size → w1.cell? ⟨b, o, none⟩ = W.cell? ⟨b, o, none⟩) ∧ (∀ b o, b < W.heap.size → w1.frozen? ⟨b, o, none⟩ = W.frozen? ⟨b, o, none⟩) :=
  ⟨fun b o h => hb.cell (p := ⟨b, o, none⟩) h, fun b o h => hb.frozen (p := ⟨b, o, none⟩) h⟩

set_option maxHeartbeats 400000
theorem of_in (n : Int) (w : World) (h1 : -2147483648 ≤ n) (h2 : n ≤ 2147483648) : Calls Try.prog 11 #[.int .i64 n] w fun e w' => e = .returned (.tuple #[.agg #[.int .i64 1, .int .i64 n, .string ⟨#[]⟩], .int .i64 0]) ∧ Below w.heap.size w w' := by { go_enter Try.func11, Try.ntmps11; go_wp2_with fail; refine bodyPost_ret (v := (.tuple #[.agg #[.int .i64 1, .int .i64 n, .string ⟨#[]⟩], .int .i64 0])) (by simp [results, Try.results11, go_sem]) rfl ⟨rfl, ?_⟩; exact below_one _ _ }
theorem of_out (n : Int) (w : World) (h : n < -2147483648 ∨ 2147483648 < n) : Calls Try.prog 11 #[.int .i64 n] w fun e w' => e = .returned (.tuple #[.agg #[.int .i64 0, .int .i64 0, .string ⟨#[]⟩], .int .i64 13]) ∧ Below w.heap.size w w' := by { go_enter Try.func11, Try.ntmps11; rcases h with h | h; (go_wp2_with fail; refine bodyPost_ret (v := (.tuple #[.agg #[.int .i64 0, .int .i64 0, .string ⟨#[]⟩], .int .i64 13])) (by simp [results, Try.results11, go_sem]) rfl ⟨rfl, ?_⟩; exact below_one _ _); (have h' : ¬ n < -2147483648 := by omega); go_wp2_with fail; refine bodyPost_ret (v := (.tuple #[.agg #[.int .i64 0, .int .i64 0, .string ⟨#[]⟩], .int .i64 13])) (by simp [results, Try.results11, go_sem]) rfl ⟨rfl, ?_⟩; exact below_one _ _ }
theorem rof_in (n : Int) (w : World) (h1 : -2147483648 ≤ n) (h2 : n ≤ 2147483648) : Calls Try.prog 24 #[.int .i64 n] w fun e w' => e = .returned (.tuple #[.agg #[.int .i64 1, .int .i64 n, .string ⟨#[]⟩], .int .i64 0]) ∧ Below w.heap.size w w' := by { go_enter Try.func24, Try.ntmps24; go_wp2_with fail; refine bodyPost_ret (v := (.tuple #[.agg #[.int .i64 1, .int .i64 n, .string ⟨#[]⟩], .int .i64 0])) (by simp [results, Try.results24, go_sem]) rfl ⟨rfl, ?_⟩; exact below_one _ _ }
theorem rof_out (n : Int) (w : World) (h : n < -2147483648 ∨ 2147483648 < n) : Calls Try.prog 24 #[.int .i64 n] w fun e w' => e = .returned (.tuple #[.agg #[.int .i64 0, .int .i64 0, .string ⟨#[]⟩], .int .i64 13]) ∧ Below w.heap.size w w' := by { go_enter Try.func24, Try.ntmps24; rcases h with h | h; (go_wp2_with fail; refine bodyPost_ret (v := (.tuple #[.agg #[.int .i64 0, .int .i64 0, .string ⟨#[]⟩], .int .i64 13])) (by simp [results, Try.results24, go_sem]) rfl ⟨rfl, ?_⟩; exact below_one _ _); (have h' : ¬ n < -2147483648 := by omega); go_wp2_with fail; refine bodyPost_ret (v := (.tuple #[.agg #[.int .i64 0, .int .i64 0, .string ⟨#[]⟩], .int .i64 13])) (by simp [results, Try.results24, go_sem]) rfl ⟨rfl, ?_⟩; exact below_one _ _ }

theorem say_in (s : ByteArray) (w : World) (h : s.size ≤ 4096) :
    Calls Try.prog 17 #[.string s] w fun e w' => e = .returned (.tuple #[.agg #[.int .i64 2, .int .i64 0, .string s], .int .i64 0]) ∧ Below w.heap.size w w' := by
  go_enter Try.func17, Try.ntmps17
  go_wp2_with fail
  refine bodyPost_ret (v := (.tuple #[.agg #[.int .i64 2, .int .i64 0, .string s], .int .i64 0])) (by simp [results, Try.results17, go_sem]) rfl ⟨rfl, ?_⟩; exact below_one _ _
theorem say_out (s : ByteArray) (w : World) (h : 4096 < s.size) (hm : s.size ≤ 9223372036854775807) :
    Calls Try.prog 17 #[.string s] w fun e w' => e = .returned (.tuple #[.agg #[.int .i64 0, .int .i64 0, .string ⟨#[]⟩], .int .i64 3]) ∧ Below w.heap.size w w' := by
  go_enter Try.func17, Try.ntmps17
  go_wp2_with fail
  refine bodyPost_ret (v := (.tuple #[.agg #[.int .i64 0, .int .i64 0, .string ⟨#[]⟩], .int .i64 3])) (by simp [results, Try.results17, go_sem]) rfl ⟨rfl, ?_⟩; exact below_one _ _
theorem rsay_in (s : ByteArray) (w : World) (h : s.size ≤ 4096) :
    Calls Try.prog 23 #[.string s] w fun e w' => e = .returned (.tuple #[.agg #[.int .i64 2, .int .i64 0, .string s], .int .i64 0]) ∧ Below w.heap.size w w' := by
  go_enter Try.func23, Try.ntmps23
  go_wp2_with fail
  refine bodyPost_ret (v := (.tuple #[.agg #[.int .i64 2, .int .i64 0, .string s], .int .i64 0])) (by simp [results, Try.results23, go_sem]) rfl ⟨rfl, ?_⟩; exact below_one _ _
theorem rsay_out (s : ByteArray) (w : World) (h : 4096 < s.size) (hm : s.size ≤ 9223372036854775807) :
    Calls Try.prog 23 #[.string s] w fun e w' => e = .returned (.tuple #[.agg #[.int .i64 0, .int .i64 0, .string ⟨#[]⟩], .int .i64 3]) ∧ Below w.heap.size w w' := by
  go_enter Try.func23, Try.ntmps23
  go_wp2_with fail
  refine bodyPost_ret (v := (.tuple #[.agg #[.int .i64 0, .int .i64 0, .string ⟨#[]⟩], .int .i64 3])) (by simp [results, Try.results23, go_sem]) rfl ⟨rfl, ?_⟩; exact below_one _ _
theorem hold_in (n : Int) (w : World) (h : 0 ≤ n) :
    Calls Try.prog 18 #[.int .i64 n] w fun e w' => e = .returned (.tuple #[.agg #[.int .i64 3, .int .i64 n, .string ⟨#[]⟩], .int .i64 0]) ∧ Below w.heap.size w w' := by
  go_enter Try.func18, Try.ntmps18
  go_wp2_with fail
  refine bodyPost_ret (v := (.tuple #[.agg #[.int .i64 3, .int .i64 n, .string ⟨#[]⟩], .int .i64 0])) (by simp [results, Try.results18, go_sem]) rfl ⟨rfl, ?_⟩; exact below_one _ _
theorem hold_out (n : Int) (w : World) (h : n < 0) :
    Calls Try.prog 18 #[.int .i64 n] w fun e w' => e = .returned (.tuple #[.agg #[.int .i64 0, .int .i64 0, .string ⟨#[]⟩], .int .i64 13]) ∧ Below w.heap.size w w' := by
  go_enter Try.func18, Try.ntmps18
  go_wp2_with fail
  refine bodyPost_ret (v := (.tuple #[.agg #[.int .i64 0, .int .i64 0, .string ⟨#[]⟩], .int .i64 13])) (by simp [results, Try.results18, go_sem]) rfl ⟨rfl, ?_⟩; exact below_one _ _

theorem truth_any (b : Bool) (w : World) :
    Calls Try.prog 12 #[.bool b] w fun e w' => e = .returned (.tuple #[.agg #[.int .i64 1, .int .i64 (b2i b), .string ⟨#[]⟩], .int .i64 0]) ∧ Below w.heap.size w w' := by
  cases b
  · go_enter Try.func12, Try.ntmps12
    go_wp2_with (go_at_call 11; refine (of_in 0 _ (by omega) (by omega)).mono ?_; rintro e w' ⟨rfl, hb⟩; obtain ⟨hc, hf⟩ := bcell hb)
    refine bodyPost_ret (v := (.tuple #[.agg #[.int .i64 1, .int .i64 0, .string ⟨#[]⟩], .int .i64 0])) (by simp [results, Try.results12, go_sem, hc]) rfl ⟨rfl, ?_⟩; exact (((((below_one _ _).trans (hb.mono (by simp))).setCell (by simp) _).setCell (by simp) _).setCell (by simp) _)
  · go_enter Try.func12, Try.ntmps12
    go_wp2_with (go_at_call 11; refine (of_in 1 _ (by omega) (by omega)).mono ?_; rintro e w' ⟨rfl, hb⟩; obtain ⟨hc, hf⟩ := bcell hb)
    refine bodyPost_ret (v := (.tuple #[.agg #[.int .i64 1, .int .i64 1, .string ⟨#[]⟩], .int .i64 0])) (by simp [results, Try.results12, go_sem, hc]) rfl ⟨rfl, ?_⟩; exact (((((below_one _ _).trans (hb.mono (by simp))).setCell (by simp) _).setCell (by simp) _).setCell (by simp) _)
theorem rtruth_any (b : Bool) (w : World) :
    Calls Try.prog 20 #[.bool b] w fun e w' => e = .returned (.tuple #[.agg #[.int .i64 1, .int .i64 (b2i b), .string ⟨#[]⟩], .int .i64 0]) ∧ Below w.heap.size w w' := by
  cases b
  · go_enter Try.func20, Try.ntmps20
    go_wp2_with fail
    refine bodyPost_ret (v := (.tuple #[.agg #[.int .i64 1, .int .i64 0, .string ⟨#[]⟩], .int .i64 0])) (by simp [results, Try.results20, go_sem]) rfl ⟨rfl, ?_⟩; exact below_one _ _
  · go_enter Try.func20, Try.ntmps20
    go_wp2_with fail
    refine bodyPost_ret (v := (.tuple #[.agg #[.int .i64 1, .int .i64 1, .string ⟨#[]⟩], .int .i64 0])) (by simp [results, Try.results20, go_sem]) rfl ⟨rfl, ?_⟩; exact below_one _ _

theorem true_any (k n : Int) (s : ByteArray) (w : World) :
    Calls Try.prog 13 #[.agg #[.int .i64 k, .int .i64 n, .string s]] w fun e w' => e = .returned (.bool (tr k n s)) ∧ Below w.heap.size w w' := by
  unfold tr
  by_cases h1 : k = 3
  · subst h1
    go_enter Try.func13, Try.ntmps13
    go_wp2_with fail
    go_ret
    exact ⟨rfl, below_one _ _⟩
  · by_cases h2 : n = 0
    · subst h2
      go_enter Try.func13, Try.ntmps13
      go_wp2_with fail
      go_ret
      exact ⟨by simp, below_one _ _⟩
    · go_enter Try.func13, Try.ntmps13
      go_wp2_with fail
      go_ret
      exact ⟨by simp [h1, h2], below_one _ _⟩

theorem rtrue_any (k n : Int) (s : ByteArray) (w : World) (h : VOk k n s) :
    Calls Try.prog 19 #[.agg #[.int .i64 k, .int .i64 n, .string s]] w fun e w' => e = .returned (.bool (tr k n s)) ∧ Below w.heap.size w w' := by
  unfold tr
  rcases h with ⟨rfl, rfl, rfl⟩ | ⟨rfl, _, _, rfl⟩ | ⟨rfl, rfl, hs⟩ | ⟨rfl, _, rfl⟩
  · go_enter Try.func19, Try.ntmps19
    go_wp2_with fail
    go_ret
    exact ⟨by simp [tl_nil], below_one _ _⟩
  · by_cases h2 : n = 0
    · subst h2
      go_enter Try.func19, Try.ntmps19
      go_wp2_with fail
      go_ret
      exact ⟨by simp [tl_nil], below_one _ _⟩
    · go_enter Try.func19, Try.ntmps19
      go_wp2_with fail
      go_ret
      exact ⟨by simp [h2], below_one _ _⟩
  · go_enter Try.func19, Try.ntmps19
    go_wp2_with fail
    go_ret
    exact ⟨by rw [tl_pos]; simp, below_one _ _⟩
  · go_enter Try.func19, Try.ntmps19
    go_wp2_with fail
    go_ret
    exact ⟨by simp, below_one _ _⟩

theorem nanI_any (a : Int) (w : World) : Calls Try.prog 28 #[.int .i64 a] w fun e w' => e = .returned (.bool false) ∧ w = w' := by
  go_enter Try.func28, Try.ntmps28
  go_wp2_with fail
  go_ret
  exact ⟨by simp, rfl⟩
theorem nanS_any (a : ByteArray) (w : World) : Calls Try.prog 29 #[.string a] w fun e w' => e = .returned (.bool false) ∧ w = w' := by
  go_enter Try.func29, Try.ntmps29
  go_wp2_with fail
  go_ret
  exact ⟨by simp, rfl⟩
theorem cmpI_any (a b : Int) (w : World) : Calls Try.prog 26 #[.int .i64 a, .int .i64 b] w fun e w' => e = .returned (.int .i64 (cmpI a b)) ∧ w = w' := by
  unfold cmpI
  go_enter Try.func26, Try.ntmps26
  go_wp2_with (go_at_call 28; refine (nanI_any _ _).mono ?_; rintro e w' ⟨rfl, rfl⟩)
  all_goals (go_ret; exact ⟨by simp [*]; try omega, rfl⟩)
theorem cmpS_any (a b : ByteArray) (w : World) : Calls Try.prog 27 #[.string a, .string b] w fun e w' => e = .returned (.int .i64 (cmpS a b)) ∧ w = w' := by
  unfold cmpS
  go_enter Try.func27, Try.ntmps27
  go_wp2_with (go_at_call 29; refine (nanS_any _ _).mono ?_; rintro e w' ⟨rfl, rfl⟩)
  all_goals (go_ret; exact ⟨by simp_all, rfl⟩)
end Go.Proofs.Ytnpgeklpkmkjeaa
