/- lex.sign and lex.Signs, at a text that was quoted. -/
import Derived.Test.YtbnemkdkeaiaoaaLe2
namespace Go.Proofs.Ytbnemkdkeaiaoaa
open Go Go.RowKit
set_option linter.unusedSimpArgs false
set_option linter.unusedVariables false
set_option maxRecDepth 100000
set_option maxHeartbeats 8000000
theorem sty_sgL : SlTy Try.prog 24 4 40 := ⟨⟨_, _, _, rfl, rfl, rfl, rfl, rfl, rfl⟩⟩
theorem frx_sgL {K : Heap} {b m : Nat} {vs us : List VV} (hg : K.get b = some (.cells true vs)) (hv : vs = us) (hl : us.length = m * 4) (hx : ∀ v ∈ us, Exact v) : Frx K (.sl b 0 m none 4) (.ro m us) := by
  subst hv
  have := Frx.sl (K := K) (b := b) (o := 0) (n := m) (z := 4) (c := none) hg (by omega) hx
  rw [List.drop_zero, List.take_of_length_le (by omega)] at this
  exact this
theorem empty34_call (r : List UInt8) (hr : r.length ≤ 100000) (H : Heap) : VCall Try.prog 12 [roB (34 :: r)] H (fun x K => x = iV 0 ∧ K = H) := by
  refine VCall.pure (by simp [nameless_roB]) (nameless_sc _) ?_
  have hb : (34 :: r : List UInt8)[0]? = some 34 := rfl
  have hl : (34 :: r : List UInt8).length = r.length + 1 := rfl
  refine VCall.go Try.func12 rfl ?_
  repeat' (first | with_reducible refine And.intro ?_ ?_ | ((with_reducible intro hc); (try simp only [zA, zB, zC, zD, zE, zF, zG, zH, zI, zJ, zK, zL, zM, zN, zO, zP, zQ, zR, zS, zT, zU, zV, zW] at hc); (first | (exact absurd rfl hc) | (exact absurd trivial hc) | (exfalso; omega) | skip)) | ((conv => whnf); first | with_reducible refine And.intro ?_ ?_ | refine ifB_intro ?_ ?_ | refine xA (by omega) ?_ | ((refine xB ?_); intro kw hk1 hk2) | refine xC (by omega) ?_ | refine xD ?_ | refine xE (by omega) ?_ | refine xF (by omega) ?_ | refine xG ?_ | refine xH ?_ | refine xI (by omega) ?_ | refine xJ (by omega) ?_ | (with_reducible refine stopA ?_) | refine Exists.intro _ (And.intro (by rfl) ?_) | refine GOp.via (by rfl) ?_ | (with_reducible first | refine stopO ?_ | refine stopE ?_ | refine stopD ?_ | refine stopW ?_ | refine stopG ?_ | refine stopC ?_ | refine stopR ?_)))
  refine GWP'.mk (GWP.rounds1 ?_)
  repeat' (first | with_reducible refine And.intro ?_ ?_ | ((with_reducible intro hc); (try simp only [zA, zB, zC, zD, zE, zF, zG, zH, zI, zJ, zK, zL, zM, zN, zO, zP, zQ, zR, zS, zT, zU, zV, zW] at hc); (first | (exact absurd rfl hc) | (exact absurd trivial hc) | (exfalso; omega) | skip)) | ((conv => whnf); first | with_reducible refine And.intro ?_ ?_ | refine ifB_intro ?_ ?_ | refine xA (by omega) ?_ | ((refine xB ?_); intro kw hk1 hk2) | refine xC (by omega) ?_ | refine xD ?_ | refine xE (by omega) ?_ | refine xF (by omega) ?_ | refine xG ?_ | refine xH ?_ | refine xI (by omega) ?_ | refine xJ (by omega) ?_ | (with_reducible refine stopA ?_) | refine Exists.intro _ (And.intro (by (first | exact vat_of vagg_u8 (map_at hb) (mul1 rfl rfl) | rfl)) ?_) | refine GOp.via (by rfl) ?_ | (with_reducible first | refine stopO ?_ | refine stopE ?_ | refine stopD ?_ | refine stopW ?_ | refine stopG ?_) | (refine GCall.mk ((sidx34 _).mono ?_); rintro _ _ ⟨rfl, rfl⟩) | (with_reducible refine stopC ?_) | (with_reducible refine stopR ?_)))
  all_goals (first | omega | exact Done'.mk rfl)
theorem qsign_call (t : List UInt8) (ht : t.length ≤ 1500) (H : Heap) : VCall Try.prog 13 [roB (quoteB t)] H (fun v K => v = .tp [.ag (txV t 0), iV (quoteB t).length, iV 0] ∧ K = H) := by
  refine VCall.pure (by simp [nameless_roB]) (nameless_tp (by simp [iV, nameless_sc]; exact nameless_ag (by simp [txV, iV, nameless_strV, nameless_sc]))) ?_
  have hb : (quoteB t)[0]? = some 34 := rfl
  have hql := quote_len t
  refine VCall.go Try.func13 rfl ?_
  (repeat' (first | with_reducible refine And.intro ?_ ?_ | ((with_reducible intro hc); (try simp only [zA, zB, zC, zD, zE, zF, zG, zH, zI, zJ, zK, zL, zM, zN, zO, zP, zQ, zR, zS, zT, zU, zV, zW] at hc); (first | (exact absurd rfl hc) | (exact absurd trivial hc) | (exfalso; omega) | skip)) | exact Is.mk rfl rfl | ((conv => whnf); first | with_reducible refine And.intro ?_ ?_ | with_reducible intro hx | exact Is.mk rfl rfl | (with_reducible first | apply Val.via | apply ValH.via) | refine ifB_intro ?_ ?_ | refine xA (by omega) ?_ | ((refine xB ?_); intro kw hk1 hk2) | refine xC (by omega) ?_ | refine xD ?_ | refine xE (by omega) ?_ | refine xF (by omega) ?_ | refine xG ?_ | refine xH ?_ | refine xI (by omega) ?_ | refine xJ (by omega) ?_ | (with_reducible refine stopA ?_) | refine Exists.intro _ (And.intro (by (first | exact vat_of vagg_u8 (map_at hb) (mul1 rfl rfl) | rfl)) ?_) | refine GOp.drawn (by rfl) (by rfl) (Nat.le_of_ble_eq_true (by rfl)) (by rfl) | refine GOp.via (by rfl) ?_ | refine GWP.drawY mixed _ (by kernel_rfl) (by rfl) ?_ | (first | (refine GCall.mk ((letter34 _).mono ?_); rintro _ _ ⟨rfl, rfl⟩) | (refine GCall.mk ((digit34 _).mono ?_); rintro _ _ ⟨rfl, rfl⟩) | (refine GCall.mk ((text_call t ht _).mono ?_); rintro _ _ ⟨rfl, rfl⟩)) | (with_reducible first | refine stopO ?_ | refine stopE ?_ | refine stopD ?_ | refine stopW ?_ | refine stopG ?_ | refine stopC ?_ | refine stopR ?_))))
  (all_goals (first | omega | contradiction | skip))
  all_goals exact Done'.mk rfl
def enV (n : Nat) : List VV := [iV 0, strV [], iV 0, iV n]
theorem qsigns_call (t : List UInt8) (ht : t.length ≤ 1500) : VCall Try.prog 7 [roB (quoteB t)] ⟨[], 0⟩ (fun v K => Frx K v (.tp [.ro 2 (txV t 0 ++ enV (quoteB t).length), iV 0])) := by
  have hql := quote_len t
  have hel := escL_len t
  have e1 : VV.ro ((quoteB t).length - (0 : Int).toNat) ((((quoteB t).map bV).drop ((0 : Int).toNat * 1)).take (((quoteB t).length - (0 : Int).toNat) * 1)) = roB (quoteB t) := by
    rw [roB_slice (l := quoteB t) (z := 1) rfl (by simp) (by simp)]
    simp
  have e2 : VV.ro ((quoteB t).length - ((0 : Int) + ((quoteB t).length : Int)).toNat) ((((quoteB t).map bV).drop (((0 : Int) + ((quoteB t).length : Int)).toNat * 1)).take (((quoteB t).length - ((0 : Int) + ((quoteB t).length : Int)).toNat) * 1)) = roB (semis 0) := by
    have q : ((0 : Int) + ((quoteB t).length : Int)).toNat = (quoteB t).length := by omega
    rw [roB_slice (l := quoteB t) (z := 1) rfl (by omega) (by omega), q]
    simp [semis]
  suffices h : VCall Try.prog 7 [roB (quoteB t)] ⟨[], 0⟩ (fun v K => Frx K v (.tp [.ro 2 (txV t 0 ++ [iV 0, strV [], iV 0, iV (0 + ((quoteB t).length : Int) + 0)]), iV 0])) from h.mono fun v K h => by
    rw [show (0 : Int) + ((quoteB t).length : Int) + 0 = ((quoteB t).length : Int) by omega] at h
    exact h
  have hx : ∀ v ∈ txV t 0 ++ [iV 0, strV [], iV 0, iV (0 + ((quoteB t).length : Int) + 0)], Exact v := by
    intro v hv
    simp only [txV, List.cons_append, List.nil_append, List.mem_cons, List.not_mem_nil, or_false] at hv
    rcases hv with rfl | rfl | rfl | rfl | rfl | rfl | rfl | rfl <;> exact exact_sc _
  have he := fun H => empty34_call (escL t ++ [34]) (by simp; omega) H
  have hn := fun H => empty0_call 0 H (by decide)
  refine VCall.go Try.func7 rfl ?_
  (repeat' (first | with_reducible refine And.intro ?_ ?_ | ((with_reducible intro hc); (try simp only [zA, zB, zC, zD, zE, zF, zG, zH, zI, zJ, zK, zL, zM, zN, zO, zP, zQ, zR, zS, zT, zU, zV, zW] at hc); (first | (exact absurd rfl hc) | (exact absurd trivial hc) | (exfalso; omega) | skip)) | exact Is.mk rfl rfl | ((conv => whnf); first | with_reducible refine And.intro ?_ ?_ | with_reducible intro hx | exact Is.mk rfl rfl | (with_reducible first | apply Val.via | apply ValH.via) | refine ifB_intro ?_ ?_ | refine xA (by omega) ?_ | ((refine xB ?_); intro kw hk1 hk2) | refine xC (by omega) ?_ | refine xD ?_ | refine xE (by omega) ?_ | refine xF (by omega) ?_ | refine xG ?_ | refine xH ?_ | refine xI (by omega) ?_ | refine xJ (by omega) ?_ | (with_reducible refine stopA ?_) | refine Exists.intro _ (And.intro (by rfl) ?_) | refine GOp.drawn (by rfl) (by rfl) (Nat.le_of_ble_eq_true (by rfl)) (by rfl) | refine GOp.via (by rfl) ?_ | refine GWP.drawY mixed _ (by kernel_rfl) (by rfl) ?_ | (refine GCall.mk ((he _).mono ?_); rintro _ _ ⟨rfl, rfl⟩) | (with_reducible first | refine stopO ?_ | refine stopE ?_ | refine stopD ?_ | refine stopW ?_ | refine stopG ?_ | refine stopC ?_ | refine stopR ?_))))
  (all_goals (first | omega | contradiction | skip))
  refine GWP'.mk (GWP.rounds2 ?_)
  (repeat' (first | with_reducible refine And.intro ?_ ?_ | ((with_reducible intro hc); (try simp only [zA, zB, zC, zD, zE, zF, zG, zH, zI, zJ, zK, zL, zM, zN, zO, zP, zQ, zR, zS, zT, zU, zV, zW] at hc); (first | (exact absurd rfl hc) | (exact absurd trivial hc) | (exfalso; omega) | skip)) | exact Is.mk rfl rfl | ((conv => whnf); first | with_reducible refine And.intro ?_ ?_ | with_reducible intro hx | exact Is.mk rfl rfl | (with_reducible first | apply Val.via | apply ValH.via) | refine ifB_intro ?_ ?_ | refine xA (by omega) ?_ | ((refine xB ?_); intro kw hk1 hk2) | refine xC (by omega) ?_ | refine xD ?_ | refine xE (by omega) ?_ | refine xF (by omega) ?_ | refine xG ?_ | refine xH ?_ | refine xI (by omega) ?_ | refine xJ (by omega) ?_ | (with_reducible refine stopA ?_) | refine Exists.intro _ (And.intro (by rfl) ?_) | refine GOp.drawn (by rfl) (by rfl) (Nat.le_of_ble_eq_true (by rfl)) (by rfl) | refine GOp.via (by rfl) ?_ | refine GWP.drawY mixed _ (by kernel_rfl) (by rfl) ?_ | (first | (refine GCall.mk (VCall.arg1 e1 ((qsign_call t ht _).mono ?_)); rintro _ _ ⟨rfl, rfl⟩) | (refine GCall.mk (VCall.arg1 e2 ((hn _).mono ?_)); rintro _ _ ⟨rfl, rfl⟩)) | (with_reducible first | refine stopO ?_ | refine stopE ?_ | refine stopD ?_ | refine stopW ?_ | refine stopG ?_ | refine stopC ?_ | refine stopR ?_))))
  (all_goals (first | omega | contradiction | skip))
  all_goals exact Done'.mk (Frx.tp (.cons (frx_sgL (us := txV t 0 ++ [iV 0, strV [], iV 0, iV (0 + ((quoteB t).length : Int) + 0)]) rfl rfl rfl hx) (.cons (Frx.of (exact_sc _)) .nil)))
end Go.Proofs.Ytbnemkdkeaiaoaa
