/- The statement LexQuotes, walked. -/
import Derived.Test.YtbnemkdkeaiaoaaLeC
namespace Go.Proofs.Ytbnemkdkeaiaoaa
open Go Go.RowKit
set_option linter.unusedSimpArgs false
set_option linter.unusedVariables false
set_option maxRecDepth 100000
set_option maxHeartbeats 8000000
theorem view_byL {H : Heap} {b n : Nat} {vs : List VV} {d : List UInt8} (hg : H.get b = some (.cells true vs)) (hv : vs = d.map bV) (hn : n = d.length) : View H (.sl b 0 n none 1) (roB d) := by
  subst hv hn
  have := View.sl (H := H) (b := b) (o := 0) (n := d.length) (z := 1) (c := none) hg (by simp) (nameless_map nameless_bV d)
  rw [List.drop_zero, Nat.mul_one, List.take_of_length_le (by simp)] at this
  unfold roB
  exact this
def sgR (t : List UInt8) (n : Nat) : VV := .tp [.ro 2 (txV t 0 ++ enV n), iV 0]
theorem qsignsV (t : List UInt8) (ht : t.length ≤ 1500) {H : Heap} {v : VV} (hv : View H v (roB (quoteB t))) : VCall Try.prog 7 [v] H (fun x K => x = sgR t (quoteB t).length ∧ K = H) :=
  VCall.viewed (args' := [roB (quoteB t)]) (.cons hv .nil) (qsigns_call t ht) (fun v K e => e)
theorem lexQuotes_walk (t : List UInt8) : VCall Try.prog 3 [strV t] ⟨[], 0⟩ (fun v _ => v = .sc (.bool true)) := by
  have hlv := fun H => lives19_call H
  by_cases hl : t.length ≤ 1500
  · have hq := fun H => quote_call t hl H
    have hr := fun H => rquote_call t hl H
    have hs := fun (H : Heap) (n : Nat) (hn : n = (quoteB t).length) (hg : H.get 0 = some (.cells true ((quoteB t).map bV))) => qsignsV t hl (view_byL (b := 0) hg rfl hn)
    have heq : (t == t) = true := by simp
    have heq2 : (quoteB t == quoteB t) = true := by simp
    obtain ⟨q, hqe⟩ : ∃ q, q = quoteB t := ⟨_, rfl⟩
    rw [← hqe] at hq hr hs heq2
    unfold sgR at hs
    refine VCall.go Try.func3 rfl ?_
    (repeat' (first | with_reducible refine And.intro ?_ ?_ | ((with_reducible intro hc); (try simp only [zA, zB, zC, zD, zE, zF, zG, zH, zI, zJ, zK, zL, zM, zN, zO, zP, zQ, zR, zS, zT, zU, zV, zW] at hc); (first | (exact absurd rfl hc) | (exact absurd trivial hc) | (exfalso; omega) | skip)) | exact Is.mk rfl rfl | ((conv => whnf); first | with_reducible refine And.intro ?_ ?_ | with_reducible intro hx | exact Is.mk rfl rfl | (with_reducible first | apply Val.via | apply ValH.via) | refine ifB_intro ?_ ?_ | refine xA (by omega) ?_ | ((refine xB ?_); intro kw hk1 hk2) | refine xC (by omega) ?_ | refine xD ?_ | refine xE (by omega) ?_ | refine xF (by omega) ?_ | refine xG ?_ | refine xH ?_ | refine xI (by omega) ?_ | refine xJ (by omega) ?_ | (with_reducible refine stopA ?_) | refine Exists.intro _ (And.intro (by (first | exact vat_of rfl rfl rfl | rfl)) ?_) | refine GOp.drawn (by rfl) (by rfl) (Nat.le_of_ble_eq_true (by rfl)) (by rfl) | refine GOp.via (by rfl) ?_ | refine GWP.drawY mixed _ (by kernel_rfl) (by rfl) ?_ | (first | (refine GCall.mk ((hlv _).mono ?_); rintro _ _ ⟨rfl, rfl⟩) | (refine GCall.mk ((hq _).mono ?_); rintro _ _ ⟨rfl, rfl⟩) | (refine GCall.mk ((hr _).mono ?_); rintro _ _ ⟨rfl, rfl⟩) | (refine GCall.mk ((hs _ _ rfl rfl).mono ?_); rintro _ _ ⟨rfl, rfl⟩)) | (with_reducible first | refine stopO ?_ | refine stopE ?_ | refine stopD ?_ | refine stopW ?_ | refine stopG ?_ | refine stopC ?_ | refine stopR ?_))))
    (all_goals (first | omega | contradiction | skip))
    all_goals exact Done'.mk rfl
  · refine VCall.go Try.func3 rfl ?_
    repeat' (first | with_reducible refine And.intro ?_ ?_ | ((with_reducible intro hc); (try simp only [zA, zB, zC, zD, zE, zF, zG, zH, zI, zJ, zK, zL, zM, zN, zO, zP, zQ, zR, zS, zT, zU, zV, zW] at hc); (first | (exact absurd rfl hc) | (exact absurd trivial hc) | (exfalso; omega) | skip)) | exact Is.mk rfl rfl | ((conv => whnf); first | with_reducible refine And.intro ?_ ?_ | with_reducible intro hx | exact Is.mk rfl rfl | (with_reducible first | apply Val.via | apply ValH.via) | refine ifB_intro ?_ ?_ | refine xA (by omega) ?_ | ((refine xB ?_); intro kw hk1 hk2) | refine xC (by omega) ?_ | refine xD ?_ | refine xE (by omega) ?_ | refine xF (by omega) ?_ | refine xG ?_ | refine xH ?_ | refine xI (by omega) ?_ | refine xJ (by omega) ?_ | (with_reducible refine stopA ?_) | refine Exists.intro _ (And.intro (by rfl) ?_) | refine GOp.drawn (by rfl) (by rfl) (Nat.le_of_ble_eq_true (by rfl)) (by rfl) | refine GOp.via (by rfl) ?_ | refine GWP.drawY mixed _ (by kernel_rfl) (by rfl) ?_ | (refine GCall.mk ((hlv _).mono ?_); rintro _ _ ⟨rfl, rfl⟩) | (with_reducible first | refine stopO ?_ | refine stopE ?_ | refine stopD ?_ | refine stopW ?_ | refine stopG ?_ | refine stopC ?_ | refine stopR ?_)))
    all_goals (first | omega | exact Done'.mk rfl)
end Go.Proofs.Ytbnemkdkeaiaoaa
