/- What a call hands back, under other names. Over any program. -/
import Derived.Test.YtbnemkdkeaiaoaaVg
namespace Go.Proofs.Ytbnemkdkeaiaoaa
open Go Go.RowKit
set_option linter.unusedSimpArgs false
set_option linter.unusedVariables false
variable {P : Program} {f : FuncId} {args : List VV} {H : Heap} {Q Q' : VV → Heap → Prop}
theorem VCall.outR (h : VCall P f args H Q)
    (hQ : ∀ v K, Q v K → ∃ u O nx R, (wfR H.next nx R && nodupB (ksOf R H.next O) && Nat.ble H.next nx && O.all fun p => Nat.blt p.1 nx) = true ∧ RenV R H.next v u ∧ RenG R H.next K O ∧ Q' u ⟨O, nx⟩) : VCall P f args H Q' := fun B M Z ρ w ra h1 h2 => by
  refine (h B M Z ρ w ra h1 h2).mono fun e w' ⟨v', v, K, Z', ρ2, he, q, e1, r2, v2⟩ => ?_
  obtain ⟨u, O, nx, R, hw, hval, hobj, q'⟩ := hQ v K q
  simp only [Bool.and_eq_true] at hw
  obtain ⟨⟨⟨k1, k2⟩, k3⟩, k4⟩ := hw
  have k3 := Nat.le_of_ble_eq_true k3
  have h6 := hobj.toH
  generalize ht : H.next = t at *
  have hl : Links R t ρ2 (fun b => (srcOf R t b).bind ρ2) := ⟨fun b hb c hc => by simp only [srcOf_lt hb, Option.bind_some]; exact hc, fun p hp c hc => by
    obtain ⟨g1, g2, g3⟩ := wfR_src k1 p hp
    simp only [srcOf_ge g1, g3, Option.bind_some]
    exact hc⟩
  refine ⟨v', u, _, Z', fun b => (srcOf R t b).bind ρ2, he, q', ⟨k3, fun b hb => ?_, e1.zsub, fun b k hk => ?_, e1.keep, e1.size, e1.znew⟩, ?_, hval _ _ _ _ _ hl v2⟩
  · simp only [srcOf_lt hb, Option.bind_some]
    exact e1.rold b hb
  · have hlt : b < t := by
      rcases Nat.lt_or_ge b t with g | g
      · exact g
      · rw [h1.dom b (by omega)] at hk; cases hk
    simp only [srcOf_lt hlt, Option.bind_some]
    rw [e1.rold b hlt]
    exact hk
  · refine ⟨r2.glob, r2.os, r2.tape, r2.output, r2.size, r2.frame, fun b hb => ?_, fun b x hx => ?_, ?_, ?_, r2.zlt⟩
    · have hb : nx ≤ b := hb
      show (srcOf R t b).bind ρ2 = none
      rw [srcOf_ge (by omega)]
      cases hs : srcN R b with
      | none => rfl
      | some a =>
        have := (wfR_src k1 _ (srcN_mem hs)).2.1
        simp only at this
        omega
    · have g5 : (b, x) ∈ O := by
        rcases h6.get hx with ⟨_, _, g⟩ | ⟨a, x0, g1, g2, g3, g4, g5⟩
        · exact g
        · exact g5
      have := List.all_eq_true.1 k4 _ g5
      exact blt_iff.1 this
    · intro b b' k N N' x x' hx hx' hb hb'
      obtain ⟨c, hc, _⟩ := Option.bind_eq_some_iff.1 hb
      obtain ⟨c', hc', _⟩ := Option.bind_eq_some_iff.1 hb'
      obtain ⟨a, x0, g1, g2, g3, g4, _⟩ := h6.getK hx hc
      obtain ⟨a', x0', g1', g2', g3', g4', _⟩ := h6.getK hx' hc'
      simp only [g1, g1', Option.bind_some] at hb hb'
      have := r2.inj a a' k N N' x0 x0' g2 g2' hb hb'
      subst this
      exact h6.inj k2 hx hx' g1 g1'
    · intro b x hx
      rcases h6.get hx with ⟨g1, g2, _⟩ | ⟨a, x0, g1, g2, g3, g4, _⟩
      · exact .inl ⟨g2, by simp only [g1, Option.bind_none]⟩
      rcases r2.obj a x0 g2 with ⟨q1, q2⟩ | ⟨k, N, o, q1, q2, q3, q4, q5⟩
      · exact .inl ⟨g3.ghost q1, by simp only [g1, Option.bind_some]; exact q2⟩
      exact .inr ⟨k, N, o, by simp only [g1, Option.bind_some]; exact q1, q2, g3.orel hl q3, q4, fun h => q5 (by rw [← g3.rw]; exact h)⟩
end Go.Proofs.Ytbnemkdkeaiaoaa
