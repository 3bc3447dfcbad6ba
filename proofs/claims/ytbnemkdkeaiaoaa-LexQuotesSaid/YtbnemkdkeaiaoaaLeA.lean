/- sync.Once's slow road, at a Replacer. -/
import Derived.Test.YtbnemkdkeaiaoaaLe9
namespace Go.Proofs.Ytbnemkdkeaiaoaa
open Go Go.RowKit
set_option linter.unusedSimpArgs false
set_option linter.unusedVariables false
set_option maxRecDepth 100000
set_option maxHeartbeats 8000000
theorem lLoad (a : Addr) (x : Int) (w : World) (hc : w.cell? a = some (.int .u32 x)) (c : Bool) (hx : (x != 0) = c) :
    Calls Try.prog 26 #[.pointer (some a)] w fun e w' => e = .returned (.bool c) ∧ w' = w := by
  subst hx
  have hl := run_call_load (P := Try.prog) Try.func40 (by kernel_rfl) (by kernel_rfl) (by kernel_rfl) .u32 (by kernel_rfl) hc
  go_enter Try.func26, Try.ntmps26
  go_wp2
  all_goals (first | go_ret | go_ret2 | go_end0)
  all_goals exact ⟨rfl, rfl⟩
def hpA (d l : Int) (r o : VV) : Heap := ⟨[(0, .cells true (repV d l r o)), (1, .cells true oldL)], 2⟩
theorem cellA {B : World} {M Z : Nat → Prop} {ρ : Nat → Option (Nat × Nat)} {w : World} {d l : Int} {r o : VV} {k N : Nat} (h : Rel B M Z ρ (hpA d l r o) w) (hk : ρ 0 = some (k, N)) : w.cell? ⟨k, 0, none⟩ = some (.int .u32 d) ∧ w.cell? ⟨k, 1, none⟩ = some (.int .i32 l) ∧ w.frozen? ⟨k, 0, none⟩ = false ∧ w.frozen? ⟨k, 1, none⟩ = false := by
  obtain ⟨k', N', cs, t, fr, g1, g2, g3, g4, g5⟩ := h.at_ (b := 0) (r := true) (vs := repV d l r o) rfl
  rw [hk] at g1; injection g1 with g1; injection g1 with g1 g1'; subst g1 g1'
  obtain ⟨c0, h0, r0⟩ := g4 0 _ rfl
  obtain ⟨c1, h1, r1⟩ := g4 1 _ rfl
  cases r0
  cases r1
  have hN : 2 ≤ N := by
    have := (List.getElem?_eq_some_iff.1 h1).1
    simp at this
    omega
  refine ⟨?_, ?_, ?_, ?_⟩
  · rw [cell_of_cells g2]; simpa using h0
  · rw [cell_of_cells g2]; simpa using h1
  · rw [frozen_of_cells g2]; exact nofr g5 (by omega)
  · rw [frozen_of_cells g2]; exact nofr g5 (by omega)
theorem slow_call : VCall Try.prog 27 [.ptr 0 0, .fn (.func 15) [.ptr 0 0] []] (hpA 0 0 (.sc .nilIface) (.sl 1 0 6 none 1)) (fun v K => v = .tp [] ∧ K = hpA 1 0 (.ifc 91 (.rp rowF 0)) nilS) := fun B M Z ρ w ra h1 h2 => by
  obtain ⟨k, N, rfl, hk⟩ : ∃ k N, ra = #[.pointer (some ⟨k, 0, none⟩), .func (.func 15) #[.pointer (some ⟨k, 0, none⟩)] #[]] ∧ ρ 0 = some (k, N) := by
    obtain ⟨ra⟩ := ra
    match ra, h2 with
    | [y, z], h2 =>
      have hy : VRel w Z ρ (.ptr 0 0) y := h2.2 0 _ _ rfl rfl
      have hz : VRel w Z ρ (.fn (.func 15) [.ptr 0 0] []) z := h2.2 1 _ _ rfl rfl
      cases hy with
      | @ptr _ _ k N hk =>
        cases hz with
        | @fn _ _ _ cs ds e1 r1 e2 r2 =>
          obtain ⟨cs⟩ := cs
          obtain ⟨ds⟩ := ds
          match cs, e1, r1 with
          | [q], e1, r1 =>
            have hq : VRel w Z ρ (.ptr 0 0) q := r1 0 _ _ rfl rfl
            cases hq with
            | @ptr _ _ k2 N2 hk2 =>
              rw [hk] at hk2
              cases hk2
              obtain rfl : ds = [] := List.eq_nil_of_length_eq_zero e2.symm
              exact ⟨k, N, rfl, hk⟩
          | [], e1, _ => simp at e1
          | _ :: _ :: _, e1, _ => simp at e1
    | [], h2 => have := h2.1; simp at this
    | [_], h2 => have := h2.1; simp at this
    | _ :: _ :: _ :: _, h2 => have := h2.1; simp at this
  obtain ⟨c0, c1, f0, f1⟩ := cellA h1 hk
  obtain ⟨_, x1, R1⟩ := h1.write (b := 0) (vs := repV 0 0 (.sc .nilIface) (.sl 1 0 6 none 1)) rfl hk (l := [.sc (.int .i32 1)]) (xs := [.int .i32 1]) (Pw.cons (.sc rfl) Pw.nil) (by simp [Value.oneCell']) 1 (P := Try.prog) (by decide)
  have R1' : Rel B M Z ρ (hpA 0 1 (.sc .nilIface) (.sl 1 0 6 none 1)) (w.setCell ⟨k, 1, none⟩ (.int .i32 1)) := R1
  obtain ⟨d0, d1, _, _⟩ := cellA R1' hk
  have hin := once_call B M Z ρ _ #[.pointer (some ⟨k, 0, none⟩)] R1' (Pw.cons (.ptr hk) Pw.nil)
  have hnot : ∀ (x : Bool) (w : World), (Op.unary .not (.bool x)).run Try.prog w = .ok (.bool (!x)) w := fun _ _ => rfl
  go_enter_defers Try.func27, Try.ntmps27
  go_wp2_with (first | (go_at_call 41; refine (lLock k 1 _ c1 f1).mono ?_; rintro e w' ⟨rfl, rfl⟩) | (go_at_call 26; refine (lLoad _ 0 _ d0 false rfl).mono ?_; rintro e w' ⟨rfl, rfl⟩))
  refine hin.mono ?_
  rintro e w2 ⟨v', v, H', Z', ρ', rfl, ⟨rfl, rfl⟩, x2, R2, hv⟩
  have hk' : ρ' 0 = some (k, N) := x2.rsub _ _ hk
  have R2' : Rel B M Z' ρ' (hpA 0 1 (.ifc 91 (.rp rowF 0)) nilS) w2 := R2
  obtain ⟨e0, e1, g0, g1⟩ := cellA R2' hk'
  go_wp2
  refine leaves_cons (f := 43) (args := #[.pointer (some ⟨k, 0, none⟩), .bool true]) (by simp) (by simp [go_sem]) ?_
  refine (lStore ⟨k, 0, none⟩ (.int .u32 0) .returning _ e0 g0).mono ?_
  rintro e u' w3 ⟨rfl, rfl, rfl⟩
  obtain ⟨_, x3, R3⟩ := R2'.drew.write (b := 0) (vs := repV 0 1 (.ifc 91 (.rp rowF 0)) nilS) rfl hk' (l := [.sc (.int .u32 1)]) (xs := [.int .u32 1]) (Pw.cons (.sc rfl) Pw.nil) (by simp [Value.oneCell']) 0 (P := Try.prog) (by decide)
  have R3' : Rel B M Z' ρ' (hpA 1 1 (.ifc 91 (.rp rowF 0)) nilS) (w2.drew.setCell ⟨k, 0, none⟩ (.int .u32 1)) := R3
  obtain ⟨_, i1, _, j1⟩ := cellA R3' hk'
  refine leaves_cons (f := 42) (args := #[.pointer (some ⟨k, 1, none⟩)]) (by simp [settle]) (by simp [go_sem]) ?_
  refine (lUnlock k 1 _ _ i1 j1).mono ?_
  rintro e u' w4 ⟨rfl, rfl, rfl⟩
  obtain ⟨_, x4, R4⟩ := R3'.write (b := 0) (vs := repV 1 1 (.ifc 91 (.rp rowF 0)) nilS) rfl hk' (l := [.sc (.int .i32 0)]) (xs := [.int .i32 0]) (Pw.cons (.sc rfl) Pw.nil) (by simp [Value.oneCell']) 1 (P := Try.prog) (by decide)
  have R4' : Rel B M Z' ρ' (hpA 1 0 (.ifc 91 (.rp rowF 0)) nilS) ((w2.drew.setCell ⟨k, 0, none⟩ (.int .u32 1)).setCell ⟨k, 1, none⟩ (.int .i32 0)) := R4
  have hx : Ext (own B M) 2 Z ρ w 2 Z' ρ' ((w2.drew.setCell ⟨k, 0, none⟩ (.int .u32 1)).setCell ⟨k, 1, none⟩ (.int .i32 0)) := ((x1.trans x2).trans (Ext.drew.trans x3)).trans x4
  have hfin : ∃ v' v H' Z'' ρ'', Ending.returned (.tuple #[]) = .returned v' ∧ (v = VV.tp [] ∧ H' = hpA 1 0 (.ifc 91 (.rp rowF 0)) nilS) ∧ Ext (own B M) (hpA 0 0 (.sc .nilIface) (.sl 1 0 6 none 1)).next Z ρ w H'.next Z'' ρ'' ((w2.drew.setCell ⟨k, 0, none⟩ (.int .u32 1)).setCell ⟨k, 1, none⟩ (.int .i32 0)) ∧ Rel B M Z'' ρ'' H' ((w2.drew.setCell ⟨k, 0, none⟩ (.int .u32 1)).setCell ⟨k, 1, none⟩ (.int .i32 0)) ∧ VRel ((w2.drew.setCell ⟨k, 0, none⟩ (.int .u32 1)).setCell ⟨k, 1, none⟩ (.int .i32 0)) Z'' ρ'' v v' := ⟨_, .tp [], _, Z', ρ', rfl, ⟨rfl, rfl⟩, hx, R4', VRel.undef⟩
  simp only [Leaves, settle]
  first | exact ⟨.tuple #[], results_none rfl _ _ _, hfin⟩ | exact ⟨.tuple #[], by simp [results, Try.results27], hfin⟩
end Go.Proofs.Ytbnemkdkeaiaoaa
