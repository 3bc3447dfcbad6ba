/- The leaf functions of value and cordonref21: one contract each, for every argument in range. -/
import Derived.Test.YtnpgeklpkmkjeaaDoorVPl
import Derived.WalkKit
import Derived.WalkSpells
import Derived.WalkLawsBesides
import Derived.Deep.QuietTactic
import Derived.BigQuiet
import Derived.StillTailTactics
namespace Go.Proofs.YtnpgeklpkmkjeaaDoor
open Go.RowKit
set_option linter.unusedSimpArgs false
set_option linter.unusedVariables false

theorem below_one (w : World) (o : Obj) : Below w.heap.size w (w.alloc o) := (Below.refl _ _).alloc (Nat.le_refl _) _
theorem bcell {W w1 : World} (hb : Below W.heap.size W w1) : (∀ b o, b < W.heap.size → w1.cell? ⟨b, o, none⟩ = W.cell? ⟨b, o, none⟩) ∧ (∀ b o, b < W.heap.size → w1.frozen? ⟨b, o, none⟩ = W.frozen? ⟨b, o, none⟩) :=
  ⟨fun b o h => hb.cell (p := ⟨b, o, none⟩) h, fun b o h => hb.frozen (p := ⟨b, o, none⟩) h⟩

set_option maxHeartbeats 400000
theorem of_in (n : Int) (w : World) (h1 : -2147483648 ≤ n) (h2 : n ≤ 2147483648) : Calls Tryd.prog 18 #[.int .i64 n] w fun e w' => e = .returned (.tuple #[.agg #[.int .i64 1, .int .i64 n, .string ⟨#[]⟩], .int .i64 0]) ∧ Below w.heap.size w w' := by { go_enter Tryd.func18, Tryd.ntmps18; go_wp2_with fail; refine bodyPost_ret (v := (.tuple #[.agg #[.int .i64 1, .int .i64 n, .string ⟨#[]⟩], .int .i64 0])) (by simp [results, Tryd.results18, go_sem]) rfl ⟨rfl, ?_⟩; exact below_one _ _ }
theorem of_out (n : Int) (w : World) (h : n < -2147483648 ∨ 2147483648 < n) : Calls Tryd.prog 18 #[.int .i64 n] w fun e w' => e = .returned (.tuple #[.agg #[.int .i64 0, .int .i64 0, .string ⟨#[]⟩], .int .i64 13]) ∧ Below w.heap.size w w' := by { go_enter Tryd.func18, Tryd.ntmps18; rcases h with h | h; (go_wp2_with fail; refine bodyPost_ret (v := (.tuple #[.agg #[.int .i64 0, .int .i64 0, .string ⟨#[]⟩], .int .i64 13])) (by simp [results, Tryd.results18, go_sem]) rfl ⟨rfl, ?_⟩; exact below_one _ _); (have h' : ¬ n < -2147483648 := by omega); go_wp2_with fail; refine bodyPost_ret (v := (.tuple #[.agg #[.int .i64 0, .int .i64 0, .string ⟨#[]⟩], .int .i64 13])) (by simp [results, Tryd.results18, go_sem]) rfl ⟨rfl, ?_⟩; exact below_one _ _ }
theorem rof_in (n : Int) (w : World) (h1 : -2147483648 ≤ n) (h2 : n ≤ 2147483648) : Calls Tryd.prog 24 #[.int .i64 n] w fun e w' => e = .returned (.tuple #[.agg #[.int .i64 1, .int .i64 n, .string ⟨#[]⟩], .int .i64 0]) ∧ Below w.heap.size w w' := by { go_enter Tryd.func24, Tryd.ntmps24; go_wp2_with fail; refine bodyPost_ret (v := (.tuple #[.agg #[.int .i64 1, .int .i64 n, .string ⟨#[]⟩], .int .i64 0])) (by simp [results, Tryd.results24, go_sem]) rfl ⟨rfl, ?_⟩; exact below_one _ _ }
theorem rof_out (n : Int) (w : World) (h : n < -2147483648 ∨ 2147483648 < n) : Calls Tryd.prog 24 #[.int .i64 n] w fun e w' => e = .returned (.tuple #[.agg #[.int .i64 0, .int .i64 0, .string ⟨#[]⟩], .int .i64 13]) ∧ Below w.heap.size w w' := by { go_enter Tryd.func24, Tryd.ntmps24; rcases h with h | h; (go_wp2_with fail; refine bodyPost_ret (v := (.tuple #[.agg #[.int .i64 0, .int .i64 0, .string ⟨#[]⟩], .int .i64 13])) (by simp [results, Tryd.results24, go_sem]) rfl ⟨rfl, ?_⟩; exact below_one _ _); (have h' : ¬ n < -2147483648 := by omega); go_wp2_with fail; refine bodyPost_ret (v := (.tuple #[.agg #[.int .i64 0, .int .i64 0, .string ⟨#[]⟩], .int .i64 13])) (by simp [results, Tryd.results24, go_sem]) rfl ⟨rfl, ?_⟩; exact below_one _ _ }

theorem say_in (s : ByteArray) (w : World) (h : s.size ≤ 4096) :
    Calls Tryd.prog 19 #[.string s] w fun e w' => e = .returned (.tuple #[.agg #[.int .i64 2, .int .i64 0, .string s], .int .i64 0]) ∧ Below w.heap.size w w' := by
  go_enter Tryd.func19, Tryd.ntmps19
  go_wp2_with fail
  refine bodyPost_ret (v := (.tuple #[.agg #[.int .i64 2, .int .i64 0, .string s], .int .i64 0])) (by simp [results, Tryd.results19, go_sem]) rfl ⟨rfl, ?_⟩; exact below_one _ _
theorem say_out (s : ByteArray) (w : World) (h : 4096 < s.size) (hm : s.size ≤ 9223372036854775807) :
    Calls Tryd.prog 19 #[.string s] w fun e w' => e = .returned (.tuple #[.agg #[.int .i64 0, .int .i64 0, .string ⟨#[]⟩], .int .i64 3]) ∧ Below w.heap.size w w' := by
  go_enter Tryd.func19, Tryd.ntmps19
  go_wp2_with fail
  refine bodyPost_ret (v := (.tuple #[.agg #[.int .i64 0, .int .i64 0, .string ⟨#[]⟩], .int .i64 3])) (by simp [results, Tryd.results19, go_sem]) rfl ⟨rfl, ?_⟩; exact below_one _ _
theorem hold_in (n : Int) (w : World) (h : 0 ≤ n) :
    Calls Tryd.prog 20 #[.int .i64 n] w fun e w' => e = .returned (.tuple #[.agg #[.int .i64 3, .int .i64 n, .string ⟨#[]⟩], .int .i64 0]) ∧ Below w.heap.size w w' := by
  go_enter Tryd.func20, Tryd.ntmps20
  go_wp2_with fail
  refine bodyPost_ret (v := (.tuple #[.agg #[.int .i64 3, .int .i64 n, .string ⟨#[]⟩], .int .i64 0])) (by simp [results, Tryd.results20, go_sem]) rfl ⟨rfl, ?_⟩; exact below_one _ _
theorem hold_out (n : Int) (w : World) (h : n < 0) :
    Calls Tryd.prog 20 #[.int .i64 n] w fun e w' => e = .returned (.tuple #[.agg #[.int .i64 0, .int .i64 0, .string ⟨#[]⟩], .int .i64 13]) ∧ Below w.heap.size w w' := by
  go_enter Tryd.func20, Tryd.ntmps20
  go_wp2_with fail
  refine bodyPost_ret (v := (.tuple #[.agg #[.int .i64 0, .int .i64 0, .string ⟨#[]⟩], .int .i64 13])) (by simp [results, Tryd.results20, go_sem]) rfl ⟨rfl, ?_⟩; exact below_one _ _

theorem truth_any (b : Bool) (w : World) :
    Calls Tryd.prog 22 #[.bool b] w fun e w' => e = .returned (.tuple #[.agg #[.int .i64 1, .int .i64 (b2i b), .string ⟨#[]⟩], .int .i64 0]) ∧ Below w.heap.size w w' := by
  cases b
  · go_enter Tryd.func22, Tryd.ntmps22
    go_wp2_with (go_at_call 18; refine (of_in 0 _ (by omega) (by omega)).mono ?_; rintro e w' ⟨rfl, hb⟩; obtain ⟨hc, hf⟩ := bcell hb)
    refine bodyPost_ret (v := (.tuple #[.agg #[.int .i64 1, .int .i64 0, .string ⟨#[]⟩], .int .i64 0])) (by simp [results, Tryd.results22, go_sem, hc]) rfl ⟨rfl, ?_⟩; exact (((((below_one _ _).trans (hb.mono (by simp))).setCell (by simp) _).setCell (by simp) _).setCell (by simp) _)
  · go_enter Tryd.func22, Tryd.ntmps22
    go_wp2_with (go_at_call 18; refine (of_in 1 _ (by omega) (by omega)).mono ?_; rintro e w' ⟨rfl, hb⟩; obtain ⟨hc, hf⟩ := bcell hb)
    refine bodyPost_ret (v := (.tuple #[.agg #[.int .i64 1, .int .i64 1, .string ⟨#[]⟩], .int .i64 0])) (by simp [results, Tryd.results22, go_sem, hc]) rfl ⟨rfl, ?_⟩; exact (((((below_one _ _).trans (hb.mono (by simp))).setCell (by simp) _).setCell (by simp) _).setCell (by simp) _)
theorem rtruth_any (b : Bool) (w : World) :
    Calls Tryd.prog 23 #[.bool b] w fun e w' => e = .returned (.tuple #[.agg #[.int .i64 1, .int .i64 (b2i b), .string ⟨#[]⟩], .int .i64 0]) ∧ Below w.heap.size w w' := by
  cases b
  · go_enter Tryd.func23, Tryd.ntmps23
    go_wp2_with fail
    refine bodyPost_ret (v := (.tuple #[.agg #[.int .i64 1, .int .i64 0, .string ⟨#[]⟩], .int .i64 0])) (by simp [results, Tryd.results23, go_sem]) rfl ⟨rfl, ?_⟩; exact below_one _ _
  · go_enter Tryd.func23, Tryd.ntmps23
    go_wp2_with fail
    refine bodyPost_ret (v := (.tuple #[.agg #[.int .i64 1, .int .i64 1, .string ⟨#[]⟩], .int .i64 0])) (by simp [results, Tryd.results23, go_sem]) rfl ⟨rfl, ?_⟩; exact below_one _ _

theorem true_any (k n : Int) (s : ByteArray) (w : World) :
    Calls Tryd.prog 13 #[.agg #[.int .i64 k, .int .i64 n, .string s]] w fun e w' => e = .returned (.bool (tr k n s)) ∧ Below w.heap.size w w' := by
  unfold tr
  by_cases h1 : k = 3
  · subst h1
    go_enter Tryd.func13, Tryd.ntmps13
    go_wp2_with fail
    go_ret
    exact ⟨rfl, below_one _ _⟩
  · by_cases h2 : n = 0
    · subst h2
      go_enter Tryd.func13, Tryd.ntmps13
      go_wp2_with fail
      go_ret
      exact ⟨by simp, below_one _ _⟩
    · go_enter Tryd.func13, Tryd.ntmps13
      go_wp2_with fail
      go_ret
      exact ⟨by simp [h1, h2], below_one _ _⟩

theorem rtrue_any (k n : Int) (s : ByteArray) (w : World) (h : VOk k n s) :
    Calls Tryd.prog 14 #[.agg #[.int .i64 k, .int .i64 n, .string s]] w fun e w' => e = .returned (.bool (tr k n s)) ∧ Below w.heap.size w w' := by
  unfold tr
  rcases h with ⟨rfl, rfl, rfl⟩ | ⟨rfl, _, _, rfl⟩ | ⟨rfl, rfl, hs⟩ | ⟨rfl, _, rfl⟩
  · go_enter Tryd.func14, Tryd.ntmps14
    go_wp2_with fail
    go_ret
    exact ⟨by simp [tl_nil], below_one _ _⟩
  · by_cases h2 : n = 0
    · subst h2
      go_enter Tryd.func14, Tryd.ntmps14
      go_wp2_with fail
      go_ret
      exact ⟨by simp [tl_nil], below_one _ _⟩
    · go_enter Tryd.func14, Tryd.ntmps14
      go_wp2_with fail
      go_ret
      exact ⟨by simp [h2], below_one _ _⟩
  · go_enter Tryd.func14, Tryd.ntmps14
    go_wp2_with fail
    go_ret
    exact ⟨by rw [tl_pos]; simp, below_one _ _⟩
  · go_enter Tryd.func14, Tryd.ntmps14
    go_wp2_with fail
    go_ret
    exact ⟨by simp, below_one _ _⟩

theorem nanI_any (a : Int) (w : World) : Calls Tryd.prog 45 #[.int .i64 a] w fun e w' => e = .returned (.bool false) ∧ w = w' := by
  go_enter Tryd.func45, Tryd.ntmps45
  go_wp2_with fail
  go_ret
  exact ⟨by simp, rfl⟩
theorem nanS_any (a : ByteArray) (w : World) : Calls Tryd.prog 46 #[.string a] w fun e w' => e = .returned (.bool false) ∧ w = w' := by
  go_enter Tryd.func46, Tryd.ntmps46
  go_wp2_with fail
  go_ret
  exact ⟨by simp, rfl⟩
theorem cmpI_any (a b : Int) (w : World) : Calls Tryd.prog 34 #[.int .i64 a, .int .i64 b] w fun e w' => e = .returned (.int .i64 (cmpI a b)) ∧ w = w' := by
  unfold cmpI
  go_enter Tryd.func34, Tryd.ntmps34
  go_wp2_with (go_at_call 45; refine (nanI_any _ _).mono ?_; rintro e w' ⟨rfl, rfl⟩)
  all_goals (go_ret; exact ⟨by simp [*]; try omega, rfl⟩)
theorem cmpS_any (a b : ByteArray) (w : World) : Calls Tryd.prog 35 #[.string a, .string b] w fun e w' => e = .returned (.int .i64 (cmpS a b)) ∧ w = w' := by
  unfold cmpS
  go_enter Tryd.func35, Tryd.ntmps35
  go_wp2_with (go_at_call 46; refine (nanS_any _ _).mono ?_; rintro e w' ⟨rfl, rfl⟩)
  all_goals (go_ret; exact ⟨by simp_all, rfl⟩)
end Go.Proofs.YtnpgeklpkmkjeaaDoor
