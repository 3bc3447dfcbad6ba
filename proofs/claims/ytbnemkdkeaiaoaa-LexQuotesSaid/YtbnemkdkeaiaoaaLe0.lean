/- (*strings.Builder).Len, at any name. -/
import Derived.Test.YtbnemkdkeaiaoaaBu4
namespace Go.Proofs.Ytbnemkdkeaiaoaa
open Go Go.RowKit
set_option linter.unusedSimpArgs false
set_option linter.unusedVariables false
set_option maxRecDepth 100000
set_option maxHeartbeats 4000000
theorem lenLaw (k : Nat) (a : Option Addr) (n c : Nat) (w : World) (h : w.cell? ⟨k, 1, none⟩ = some (.slice a n c)) : Calls Try.prog 36 #[.pointer (some ⟨k, 0, none⟩)] w fun e w' => e = .returned (.int .i64 n) ∧ w' = w := by
  go_enter Try.func36, Try.ntmps36
  go_wp2

  (first | go_ret | go_ret2 | exact bodyPost_ret rfl rfl ⟨rfl, rfl⟩)
  exact ⟨rfl, rfl⟩
theorem blenAt {u : Bool} {l : List UInt8} {H : Heap} {b m : Nat} (hul : u = false → l = []) (hb : H.get b = some (sbV u b m l)) : VCall Try.prog 36 [.ptr b 0] H (fun v K => v = iV l.length ∧ K = H) := fun B M Z ρ w ra h1 h2 => by
  obtain ⟨y, rfl, hy⟩ : ∃ y, ra = #[y] ∧ VRel w Z ρ (.ptr b 0) y := by
    obtain ⟨ra⟩ := ra
    match ra, h2 with
    | [y], h2 => exact ⟨y, rfl, h2.2 0 _ _ rfl rfl⟩
    | [], h2 => have := h2.1; simp at this
    | _ :: _ :: _, h2 => have := h2.1; simp at this
  cases hy with
  | @ptr _ _ k N hk =>
    obtain ⟨a, c, hc⟩ : ∃ a c, w.cell? ⟨k, 1, none⟩ = some (.slice a l.length c) := by
      cases u with
      | false =>
        obtain rfl := hul rfl
        obtain ⟨rest, r1, r2, r3, r4, r5⟩ := h1.rawAt hb hk
        exact ⟨none, 0, by rw [cell_of_cells r1]; rfl⟩
      | true =>
        obtain ⟨k', N', cs, t, fr, g1, g2, g3, g4, g5⟩ := h1.at_ (b := b) (r := true) (vs := [.ptr b 0, bufV m l]) hb
        rw [hk] at g1; injection g1 with g1; injection g1 with g1 g1'; subst g1 g1'
        obtain ⟨c, hc, hr⟩ := g4 1 _ rfl
        rw [cell_of_cells g2]
        cases l with
        | nil =>
          cases hr with
          | sc => exact ⟨none, 0, by simpa using hc⟩
        | cons x r =>
          cases hr with
          | sl hk2 hn hcc hz => exact ⟨_, _, by simpa using hc⟩
    refine (lenLaw k a l.length c w hc).mono ?_
    rintro e w' ⟨rfl, rfl⟩
    exact ⟨_, iV l.length, _, Z, ρ, rfl, ⟨rfl, rfl⟩, Ext.refl _ _ _ _, h1, .sc rfl⟩
end Go.Proofs.Ytbnemkdkeaiaoaa
