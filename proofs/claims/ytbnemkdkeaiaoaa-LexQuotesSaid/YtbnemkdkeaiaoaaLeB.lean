/- (*sync.Once).Do and (*strings.Replacer).Replace. -/
import Derived.Test.YtbnemkdkeaiaoaaLeA
namespace Go.Proofs.Ytbnemkdkeaiaoaa
open Go Go.RowKit
set_option linter.unusedSimpArgs false
set_option linter.unusedVariables false
set_option maxRecDepth 100000
set_option maxHeartbeats 8000000
theorem load_call (d l : Int) (r o : VV) (c : Bool) (hd : (d != 0) = c) : VCall Try.prog 26 [.ptr 0 0] (hpA d l r o) (fun v K => v = .sc (.bool c) ∧ K = hpA d l r o) := fun B M Z ρ w ra h1 h2 => by
  obtain ⟨y, rfl, hy⟩ : ∃ y, ra = #[y] ∧ VRel w Z ρ (.ptr 0 0) y := by
    obtain ⟨ra⟩ := ra
    match ra, h2 with
    | [y], h2 => exact ⟨y, rfl, h2.2 0 _ _ rfl rfl⟩
    | [], h2 => have := h2.1; simp at this
    | _ :: _ :: _, h2 => have := h2.1; simp at this
  cases hy with
  | @ptr _ _ k N hk =>
    obtain ⟨c0, _, _, _⟩ := cellA h1 hk
    refine (lLoad _ d _ c0 c hd).mono ?_
    rintro e w' ⟨rfl, rfl⟩
    exact ⟨_, .sc (.bool c), _, Z, ρ, rfl, ⟨rfl, rfl⟩, Ext.refl _ _ _ _, h1, .sc rfl⟩
theorem do_call : VCall Try.prog 14 [.ptr 0 0, .fn (.func 15) [.ptr 0 0] []] (hpA 0 0 (.sc .nilIface) (.sl 1 0 6 none 1)) (fun v K => v = .tp [] ∧ K = hpA 1 0 (.ifc 91 (.rp rowF 0)) nilS) := by
  refine VCall.go Try.func14 rfl ?_
  (repeat' (first | with_reducible refine And.intro ?_ ?_ | ((with_reducible intro hc); (try simp only [zA, zB, zC, zD, zE, zF, zG, zH, zI, zJ, zK, zL, zM, zN, zO, zP, zQ, zR, zS, zT, zU, zV, zW] at hc); (first | (exact absurd rfl hc) | (exact absurd trivial hc) | (exfalso; omega) | skip)) | exact Is.mk rfl rfl | ((conv => whnf); first | with_reducible refine And.intro ?_ ?_ | with_reducible intro hx | exact Is.mk rfl rfl | (with_reducible first | apply Val.via | apply ValH.via) | refine ifB_intro ?_ ?_ | refine xA (by omega) ?_ | ((refine xB ?_); intro kw hk1 hk2) | refine xC (by omega) ?_ | refine xD ?_ | refine xE (by omega) ?_ | refine xF (by omega) ?_ | refine xG ?_ | refine xH ?_ | refine xI (by omega) ?_ | refine xJ (by omega) ?_ | (with_reducible refine stopA ?_) | refine Exists.intro _ (And.intro (by (first | exact vat_of rfl rfl rfl | rfl)) ?_) | refine GOp.drawn (by rfl) (by rfl) (Nat.le_of_ble_eq_true (by rfl)) (by rfl) | refine GOp.via (by rfl) ?_ | refine GWP.drawY mixed _ (by kernel_rfl) (by rfl) ?_ | (first | (refine GCall.mk ((load_call 0 0 _ _ false rfl).mono ?_); rintro _ _ ⟨rfl, rfl⟩) | (refine GCall.mk ((slow_call).mono ?_); rintro _ _ ⟨rfl, rfl⟩)) | (with_reducible first | refine stopO ?_ | refine stopE ?_ | refine stopD ?_ | refine stopW ?_ | refine stopG ?_ | refine stopC ?_ | refine stopR ?_))))
  all_goals exact Done'.mk ⟨rfl, rfl⟩
theorem cell3 {B : World} {M Z : Nat → Prop} {ρ : Nat → Option (Nat × Nat)} {w : World} {d l : Int} {o : VV} {row : List VV} {k N : Nat} (h : Rel B M Z ρ (hpA d l (.ifc 91 (.rp row 0)) o) w) (hk : ρ 0 = some (k, N)) : ∃ k3 o3, w.cell? ⟨k, 3, none⟩ = some (.iface 91 (.pointer (some ⟨k3, o3, none⟩))) ∧ VRel w Z ρ (.rp row 0) (.pointer (some ⟨k3, o3, none⟩)) := by
  obtain ⟨k', N', cs, t, fr, g1, g2, g3, g4, g5⟩ := h.at_ (b := 0) (r := true) (vs := repV d l (.ifc 91 (.rp row 0)) o) rfl
  rw [hk] at g1; injection g1 with g1; injection g1 with g1 g1'; subst g1 g1'
  obtain ⟨c3, h3, r3⟩ := g4 3 _ rfl
  cases r3 with
  | ifc hx =>
    cases hx with
    | @rp k3 o3 _ _ cs3 z1 z2 z3 z4 =>
      exact ⟨k3, o3 + 0, by rw [cell_of_cells g2]; simpa using h3, .rp z1 z2 z3 z4⟩
theorem replace_call (s : List UInt8) (hs : s.length ≤ 1500) : VCall Try.prog 11 [.ptr 0 0, strV s] (hpA 0 0 (.sc .nilIface) (.sl 1 0 6 none 1)) (fun v K => v = strV (escL s) ∧ K = hpA 1 0 (.ifc 91 (.rp rowF 0)) nilS) := fun B M Z ρ w ra h1 h2 => by
  obtain ⟨k, N, rfl, hk⟩ : ∃ k N, ra = #[.pointer (some ⟨k, 0, none⟩), .string ⟨s.toArray⟩] ∧ ρ 0 = some (k, N) := by
    obtain ⟨ra⟩ := ra
    match ra, h2 with
    | [y, z], h2 =>
      have hy : VRel w Z ρ (.ptr 0 0) y := h2.2 0 _ _ rfl rfl
      have hz : VRel w Z ρ (strV s) z := h2.2 1 _ _ rfl rfl
      cases hy with
      | @ptr _ _ k N hk =>
        cases hz with
        | sc => exact ⟨k, N, rfl, hk⟩
    | [], h2 => have := h2.1; simp at this
    | [_], h2 => have := h2.1; simp at this
    | _ :: _ :: _ :: _, h2 => have := h2.1; simp at this
  have hin := do_call B M Z ρ w #[.pointer (some ⟨k, 0, none⟩), .func (.func 15) #[.pointer (some ⟨k, 0, none⟩)] #[]] h1 (Pw.cons (.ptr hk) (Pw.cons (.fn rfl (fun i u c hu hc => (Pw.cons (.ptr hk) Pw.nil : Pw (VRel w Z ρ) [.ptr 0 0] [.pointer (some ⟨k, 0, none⟩)]).2 i u c hu hc) rfl (fun i u c hu => by simp at hu)) Pw.nil))
  have hm : ∀ (w : World) (a : Addr), (method 260 91 (.pointer (some a)) "Replace").run Try.prog w = .ok (104, .pointer (some a)) w := fun _ _ => by kernel_rfl
  go_enter Try.func11, Try.ntmps11
  go_wp2_with (first | (go_at_call 14; refine hin.mono ?_; rintro e w2 ⟨v', v, H', Z', ρ', rfl, ⟨rfl, rfl⟩, x2, R2, hv⟩; obtain ⟨k3, o3, c3, hp⟩ := cell3 R2 (x2.rsub _ _ hk)) | (go_at_call 104; refine (rep_call s hs _ B M Z' ρ' w2 #[.pointer (some ⟨k3, o3, none⟩), .string ⟨s.toArray⟩] R2 (Pw.cons hp (Pw.cons (.sc rfl) Pw.nil))).mono ?_; rintro e w3 ⟨v2', v2, H2, Z2, ρ2, rfl, ⟨rfl, rfl⟩, x3, R3, hv3⟩))
  all_goals (first | go_ret | go_ret2 | go_end0)
  all_goals exact ⟨_, strV (escL s), _, Z2, ρ2, rfl, ⟨rfl, rfl⟩, x2.trans x3, R3, hv3⟩
end Go.Proofs.Ytbnemkdkeaiaoaa
