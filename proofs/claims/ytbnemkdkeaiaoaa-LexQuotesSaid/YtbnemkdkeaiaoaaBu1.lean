/- strings.Builder: copyCheck, WriteString, WriteByte, String, walked. -/
import Derived.Test.YtbnemkdkeaiaoaaBu0
import Derived.Test.YtbnemkdkeaiaoaaChecked
import Derived.Lib.Builder
import Derived.WalkKit
import Derived.WalkSpells
import Derived.Laws.Externs
namespace Go.Proofs.Ytbnemkdkeaiaoaa
open Go Go.RowKit
set_option linter.unusedSimpArgs false
set_option linter.unusedVariables false
set_option maxRecDepth 100000
set_option maxHeartbeats 4000000
theorem bld_info : ∃ j, (Try.prog).info? 71 = some j ∧ j.size ≠ 0 := ⟨_, rfl, by decide⟩
theorem copyUsed (b : Nat) (w : World) (h0 : w.cell? ⟨b, 0, none⟩ = some (.pointer (some ⟨b, 0, none⟩))) : Calls Try.prog 48 #[.pointer (some ⟨b, 0, none⟩)] w fun e w' => e = .returned (.tuple #[]) ∧ w' = w := by
  obtain ⟨j, hj, _⟩ := bld_info
  go_enter Try.func48, Try.ntmps48
  go_wp2
  rw [Lib.run_neq_ptr_same w _ Try.underlying69 hj]
  go_wp2
  go_end0
  exact ⟨rfl, rfl⟩
theorem copyFresh (b : Nat) (w : World) (h0 : w.cell? ⟨b, 0, none⟩ = some (.pointer none)) (hsh : w.shape? b = some (71, 2)) (hfz : w.frozen? ⟨b, 0, none⟩ = false) :
    Calls Try.prog 48 #[.pointer (some ⟨b, 0, none⟩)] w fun e w' => e = .returned (.tuple #[]) ∧ w' = w.setCell ⟨b, 0, none⟩ (.pointer (some ⟨b, 0, none⟩)) := by
  obtain ⟨j, hj, hjs⟩ := bld_info
  go_enter Try.func48, Try.ntmps48
  go_wp2
  rw [Lib.run_to_unsafe w ⟨b, 0, none⟩ Try.underlying69 Try.underlying108 hj hjs hsh (Nat.zero_lt_succ 1)]
  simp only [Result.andThen]
  rw [Oper.upon_value]
  go_wp2
  rw [run_callFunc_extern Try.func55 (by kernel_rfl) (by kernel_rfl) (by kernel_rfl) (e := Extern.AbiNoEscape.same) (by kernel_rfl)]
  rw [Lib.run_noEscape]
  simp only [Result.andThen]
  rw [Oper.upon_value]
  go_wp2
  rw [Lib.run_from_unsafe w ⟨b, 0, none⟩ Try.underlying108 Try.underlying69 hj hsh (by kernel_rfl)]
  simp only [Result.andThen]
  rw [Oper.upon_value]
  go_wp2
  go_end0
  exact ⟨rfl, rfl⟩
/-- A builder's variable: u: it has been written. -/
def sbV (u : Bool) (b m : Nat) (l : List UInt8) : VObj := match u with
  | true => .cells true [.ptr b 0, bufV m l]
  | false => .raw 71 [.pointer none, .slice none 0 0] (some 2)
theorem copyU_call (x : VV) (O : List (Nat × VObj)) (n : Nat) : VCall Try.prog 48 [.ptr 0 0] ⟨(0, .cells true [.ptr 0 0, x]) :: O, n⟩ (fun v K => v = .tp [] ∧ K = ⟨(0, .cells true [.ptr 0 0, x]) :: O, n⟩) := fun B M Z ρ w ra h1 h2 => by
  obtain ⟨y, rfl, hy⟩ : ∃ y, ra = #[y] ∧ VRel w Z ρ (.ptr 0 0) y := by
    obtain ⟨ra⟩ := ra
    match ra, h2 with
    | [y], h2 => exact ⟨y, rfl, h2.2 0 _ _ rfl rfl⟩
    | [], h2 => have := h2.1; simp at this
    | _ :: _ :: _, h2 => have := h2.1; simp at this
  cases hy with
  | @ptr _ _ k N hk =>
    obtain ⟨k', N', cs, t, fr, g1, g2, g3, g4, g5⟩ := h1.at_ (b := 0) (r := true) (vs := [.ptr 0 0, x]) rfl
    rw [hk] at g1; injection g1 with g1; injection g1 with g1 g1'; subst g1 g1'
    obtain ⟨c, hc, hr⟩ := g4 0 _ rfl
    have hc0 : w.cell? ⟨k, 0, none⟩ = some (.pointer (some ⟨k, 0, none⟩)) := by
      rw [cell_of_cells g2]
      cases hr with
      | ptr hk2 =>
        rw [hk] at hk2
        injection hk2 with hk2
        injection hk2 with hk2 _
        subst hk2
        simpa using hc
    refine (copyUsed k w hc0).mono ?_
    rintro e w' ⟨rfl, rfl⟩
    exact ⟨_, .tp [], _, Z, ρ, rfl, ⟨rfl, rfl⟩, Ext.refl _ _ _ _, h1, VRel.undef⟩
theorem copyF_call (O : List (Nat × VObj)) (n : Nat) : VCall Try.prog 48 [.ptr 0 0] ⟨(0, .raw 71 [.pointer none, .slice none 0 0] (some 2)) :: O, n⟩ (fun v K => v = .tp [] ∧ K = ⟨(0, .cells true [.ptr 0 0, .sc (.slice none 0 0)]) :: O, n⟩) := fun B M Z ρ w ra h1 h2 => by
  obtain ⟨y, rfl, hy⟩ : ∃ y, ra = #[y] ∧ VRel w Z ρ (.ptr 0 0) y := by
    obtain ⟨ra⟩ := ra
    match ra, h2 with
    | [y], h2 => exact ⟨y, rfl, h2.2 0 _ _ rfl rfl⟩
    | [], h2 => have := h2.1; simp at this
    | _ :: _ :: _, h2 => have := h2.1; simp at this
  cases hy with
  | @ptr _ _ k N hk =>
    have hg : (⟨(0, .raw 71 [.pointer none, .slice none 0 0] (some 2)) :: O, n⟩ : Heap).get 0 = some (.raw 71 [.pointer none, .slice none 0 0] (some 2)) := rfl
    obtain ⟨rest, r1, r2, r3, r4, r5⟩ := h1.rawAt hg hk
    obtain rfl : N = 2 := r3 2 rfl
    obtain rfl : rest = [] := List.eq_nil_of_length_eq_zero (by simpa using r2)
    have hc0 : w.cell? ⟨k, 0, none⟩ = some (.pointer none) := by
      rw [cell_of_cells r1]; rfl
    have hsh : w.shape? k = some (71, 2) := by
      unfold World.shape?
      rw [r1]
      rfl
    have hfz : w.frozen? ⟨k, 0, none⟩ = false := by rw [frozen_of_cells r1]; rfl
    refine (copyFresh k w hc0 hsh hfz).mono ?_
    rintro e w' ⟨rfl, rfl⟩
    obtain ⟨s1, s2, s3, s4, s5, s6⟩ := heap_setCells k 71 (0, 0) [.pointer (some ⟨k, 0, none⟩)] 0 w _ r1
    have hw : w.setCells k 0 [.pointer (some ⟨k, 0, none⟩)] = w.setCell ⟨k, 0, none⟩ (.pointer (some ⟨k, 0, none⟩)) := rfl
    rw [hw] at s1 s2 s3 s4 s5 s6
    obtain ⟨e1, rr⟩ := h1.turn hg hk rfl (y := .cells true [.ptr 0 0, .sc (.slice none 0 0)]) rfl s4 s5 s6 s3 s2 s1 ⟨_, _, _, rfl, rfl, (Pw.cons (.ptr hk) (Pw.cons (.sc rfl) Pw.nil)).pre, .inl rfl⟩
    exact ⟨_, .tp [], _, Z, ρ, rfl, ⟨rfl, rfl⟩, e1, rr, VRel.undef⟩
end Go.Proofs.Ytbnemkdkeaiaoaa
