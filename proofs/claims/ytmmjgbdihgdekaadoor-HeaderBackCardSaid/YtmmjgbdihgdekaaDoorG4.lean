import Derived.Test.YtmmjgbdihgdekaaDoorG3
import Derived.Lib.Bytealg
import Derived.Test.YtmmjgbdihgdekaaDoorE6
/- Headers, plain: what lines make, and the two ways to go over them. -/
namespace Go.Proofs.YtmmjgbdihgdekaaDoor
open Go Go.RowKit
set_option linter.unusedSimpArgs false
set_option linter.unusedVariables false
/-- Without a carriage return at the end. -/
def trimCR (l : List UInt8) : List UInt8 := if l.getLast? = some 13 then l.dropLast else l
abbrev HF := List UInt8 × List UInt8
/-- The error of one more field behind so many. -/
def hwrong (f : HF) (n : Nat) : Nat := if !tokenB f.1 || (f.2.contains 13 || f.2.contains 10) || !(trimB f.2 == f.2) then 2 else if 64 ≤ n then 3 else 0
/-- The field of a line, and its error behind so many. -/
def hfield (line : List UInt8) : HF := ((cutB line 58).1, trimB (cutB line 58).2.1)
def herr (line : List UInt8) (n : Nat) : Nat := if (cutB line 58).2.2 then hwrong (hfield line) n else 2
inductive HR where
  | err (e : Nat)
  | ok (l : List HF) (body : List UInt8)
/-- One line more. -/
def hstep (line : List UInt8) (acc : List HF) (empty : HR) (next : List HF → HR) : HR :=
  if trimCR line = [] then empty else if herr (trimCR line) acc.length = 0 then next (acc ++ [hfield (trimCR line)]) else .err (herr (trimCR line) acc.length)
def hgo : List UInt8 → List UInt8 → List HF → HR
  | [], cur, acc => hstep cur acc (.ok acc []) (fun a => .ok a [])
  | b :: t, cur, acc => if b = 10 then hstep cur acc (.ok acc t) (fun a => hgo t [] a) else hgo t (cur ++ [b]) acc
/-- The header and the body of a text. -/
def hparse (t : List UInt8) : HR := hgo t [] []
/-- As hgo, of a block without a body. -/
def lgo : List UInt8 → List UInt8 → List HF → HR
  | [], cur, acc => hstep cur acc (.ok acc []) (fun a => .ok a [])
  | b :: t, cur, acc => if b = 10 then hstep cur acc (.ok acc []) (fun a => lgo t [] a) else lgo t (cur ++ [b]) acc
/-- All values of the lines that are come to are of a kind. -/
def lvis (Q : List UInt8 → Prop) : List UInt8 → List UInt8 → List HF → Prop
  | [], cur, acc => trimCR cur = [] ∨ Q (hfield (trimCR cur)).2
  | b :: t, cur, acc => if b = 10 then trimCR cur = [] ∨ (Q (hfield (trimCR cur)).2 ∧ (herr (trimCR cur) acc.length = 0 → lvis Q t [] (acc ++ [hfield (trimCR cur)]))) else lvis Q t (cur ++ [b]) acc
theorem lvis_all {Q : List UInt8 → Prop} (hQ : ∀ x, Q x) : ∀ (l cur : List UInt8) (acc : List HF), lvis Q l cur acc
  | [], cur, acc => .inr (hQ _)
  | b :: t, cur, acc => by
    unfold lvis
    split
    · exact .inr ⟨hQ _, fun _ => lvis_all hQ t [] _⟩
    · exact lvis_all hQ t _ acc
/-- The block and the body: of the line begun, and what is behind. -/
def spH : List UInt8 → List UInt8 → List UInt8 × List UInt8
  | [], cur => (cur, [])
  | b :: t, cur => if b = 10 then (if trimCR cur = [] then ([], t) else (cur ++ 10 :: (spH t []).1, (spH t []).2)) else spH t (cur ++ [b])
def HR.body (b : List UInt8) : HR → HR
  | .err e => .err e
  | .ok l _ => .ok l b
theorem lgo_skip : ∀ (p r cur : List UInt8) (acc : List HF), 10 ∉ p → lgo (p ++ r) cur acc = lgo r (cur ++ p) acc
  | [], r, cur, acc, _ => by simp
  | c :: p, r, cur, acc, h => by
    have hc : ¬ c = 10 := fun e => h (by rw [e]; exact List.mem_cons_self)
    rw [List.cons_append]
    show (if c = 10 then _ else _) = _
    rw [if_neg hc, lgo_skip p r (cur ++ [c]) acc (fun hm => h (List.mem_cons_of_mem _ hm)), List.append_assoc]
    rfl
theorem lgo_two (r cur : List UInt8) (acc : List HF) (h : 10 ∉ cur) : lgo (cur ++ r) [] acc = lgo r cur acc := by
  rw [lgo_skip cur r [] acc h]; rfl
theorem hgo_spH : ∀ (r cur : List UInt8) (acc : List HF), 10 ∉ cur → hgo r cur acc = (lgo (spH r cur).1 [] acc).body (spH r cur).2
  | [], cur, acc, h => by
    have := lgo_two [] cur acc h
    rw [List.append_nil] at this
    show hstep cur acc (.ok acc []) (fun a => .ok a []) = (lgo cur [] acc).body []
    rw [this]
    unfold lgo hstep
    split
    · rfl
    · split <;> rfl
  | b :: t, cur, acc, h => by
    by_cases hb : b = 10
    · unfold hgo spH
      rw [if_pos hb, if_pos hb]
      by_cases he : trimCR cur = []
      · rw [if_pos he]
        show _ = (lgo [] [] acc).body t
        unfold hstep
        rw [if_pos he]
        rfl
      · rw [if_neg he]
        show _ = (lgo (cur ++ 10 :: (spH t []).1) [] acc).body (spH t []).2
        rw [lgo_two _ cur acc h]
        unfold hstep lgo
        rw [if_pos rfl, if_neg he]
        unfold hstep
        rw [if_neg he]
        split
        · exact hgo_spH t [] _ (by simp)
        · rfl
    · unfold hgo spH
      rw [if_neg hb, if_neg hb]
      exact hgo_spH t (cur ++ [b]) acc (by
        intro hm
        rcases List.mem_append.1 hm with hm | hm
        · exact h hm
        · exact hb (List.mem_singleton.1 hm).symm)
theorem hparse_sp (t : List UInt8) : hparse t = (lgo (spH t []).1 [] []).body (spH t []).2 := hgo_spH t [] [] (by simp)
/-- A whole line at once. -/
theorem hgo_line : ∀ (p r cur : List UInt8) (acc : List HF), 10 ∉ p → hgo (p ++ 10 :: r) cur acc = hstep (cur ++ p) acc (.ok acc r) (fun a => hgo r [] a)
  | [], r, cur, acc, _ => by
    rw [List.nil_append, List.append_nil]
    show (if (10 : UInt8) = 10 then _ else _) = _
    rw [if_pos rfl]
  | c :: p, r, cur, acc, h => by
    have hc : ¬ c = 10 := fun e => h (by rw [e]; exact List.mem_cons_self)
    rw [List.cons_append]
    show (if c = 10 then _ else _) = _
    rw [if_neg hc, hgo_line p r (cur ++ [c]) acc (fun hm => h (List.mem_cons_of_mem _ hm)), List.append_assoc]
    rfl
theorem hgo_last : ∀ (p cur : List UInt8) (acc : List HF), 10 ∉ p → hgo p cur acc = hstep (cur ++ p) acc (.ok acc []) (fun a => .ok a [])
  | [], cur, acc, _ => by rw [List.append_nil]; rfl
  | c :: p, cur, acc, h => by
    have hc : ¬ c = 10 := fun e => h (by rw [e]; exact List.mem_cons_self)
    show (if c = 10 then _ else _) = _
    rw [if_neg hc, hgo_last p (cur ++ [c]) acc (fun hm => h (List.mem_cons_of_mem _ hm)), List.append_assoc]
    rfl
end Go.Proofs.YtmmjgbdihgdekaaDoor

/- HasSuffix, TrimSuffix, Count of a byte. -/
namespace Go.Proofs.YtmmjgbdihgdekaaDoor
open Go Go.RowKit
set_option linter.unusedSimpArgs false
set_option linter.unusedVariables false
set_option maxRecDepth 100000
set_option maxHeartbeats 4000000
theorem suf13 (t : List UInt8) (h : 1 ≤ t.length) : (t.drop (t.length - 1) == [13]) = (t.getLast? == some 13) := by
  have hn : t ≠ [] := by intro e; subst e; simp at h
  have e : t = t.dropLast ++ [t.getLast hn] := (List.dropLast_concat_getLast hn).symm
  have hl : t.dropLast.length = t.length - 1 := List.length_dropLast
  have e2 : t.drop (t.length - 1) = [t.getLast hn] := by
    rw [← hl]
    conv => lhs; rw [e]
    rw [List.drop_append_of_le_length (by simp)]
    simp
  rw [e2, List.getLast?_eq_some_getLast hn]
  rw [Bool.eq_iff_iff]
  simp
theorem cut1 (t : List UInt8) (h : 1 ≤ t.length) : VV.ro (t.length - ((t.length : Int) - 1).toNat) (((t.map bV).drop (((t.length : Int) - 1).toNat * 1)).take ((t.length - ((t.length : Int) - 1).toNat) * 1)) = roB (t.drop (t.length - 1)) := by
  have q : ((t.length : Int) - 1).toNat = t.length - 1 := by omega
  rw [q]
  exact (roB_slice rfl (by omega) (by omega)).trans (congrArg roB (List.take_of_length_le (by simp)))
theorem hasSuf_call (t : List UInt8) (H : Heap) {b : Nat} {c0 : Option Nat} (hg : H.get b = some (.cells true [bV 13])) (ht : t.length ≤ 100000) : VCall Tryd.prog 165 [roB t, .sl b 0 1 c0 1] H (fun x K => x = booV (t.getLast? == some 13) ∧ K = H) := by
  refine VCall.viewed (args' := [roB t, .ro 1 [bV 13]]) (Q := fun v K => v = booV (t.getLast? == some 13)) (.cons (View.of (nameless_roB t)) (.cons ?_ .nil)) ?_ (fun v K e => by subst e; exact Frx.of (exact_sc _))
  · exact View.sl (H := H) (b := b) (o := 0) (n := 1) (z := 1) (c := c0) hg (by simp) (nameless_map nameless_bV [13])
  · refine VCall.go Tryd.func165 rfl ?_
    repeat' (first | with_reducible refine And.intro ?_ ?_ | ((with_reducible intro hc); (try simp only [zA, zB, zC, zD, zE, zF, zG, zH, zI, zJ, zK, zL, zM, zN, zO, zP, zQ, zR, zS, zT, zU, zV, zW] at hc); (first | (exact absurd rfl hc) | (exact absurd trivial hc) | (exfalso; omega) | skip)) | ((conv => whnf); first | with_reducible refine And.intro ?_ ?_ | refine ifB_intro ?_ ?_ | refine xA (by omega) ?_ | ((refine xB ?_); intro kw hk1 hk2) | refine xC (by omega) ?_ | refine xD ?_ | refine xE (by omega) ?_ | refine xF (by omega) ?_ | refine xG ?_ | refine xH ?_ | refine xI (by omega) ?_ | refine xJ (by omega) ?_ | (with_reducible refine stopA ?_) | refine Exists.intro _ (And.intro (by rfl) ?_) | refine GOp.via (by rfl) ?_ | (with_reducible first | refine stopO ?_ | refine stopE ?_ | refine stopD ?_ | refine stopW ?_ | refine stopG ?_ | refine stopC ?_ | refine stopR ?_)))
    all_goals (first | omega | skip)
    · refine GCall'.mk (VCall.arg21 (cut1 t (by omega)) ((equal_call (t.drop (t.length - 1)) [13] _).mono ?_))
      rintro _ _ ⟨rfl, rfl⟩
      rw [suf13 t (by omega)]
      repeat' (first | with_reducible refine And.intro ?_ ?_ | ((with_reducible intro hc); (try simp only [zA, zB, zC, zD, zE, zF, zG, zH, zI, zJ, zK, zL, zM, zN, zO, zP, zQ, zR, zS, zT, zU, zV, zW] at hc); (first | (exact absurd rfl hc) | (exact absurd trivial hc) | (exfalso; omega) | skip)) | ((conv => whnf); first | with_reducible refine And.intro ?_ ?_ | refine ifB_intro ?_ ?_ | refine xA (by omega) ?_ | ((refine xB ?_); intro kw hk1 hk2) | refine xC (by omega) ?_ | refine xD ?_ | refine xE (by omega) ?_ | refine xF (by omega) ?_ | refine xG ?_ | refine xH ?_ | refine xI (by omega) ?_ | refine xJ (by omega) ?_ | (with_reducible refine stopA ?_) | refine Exists.intro _ (And.intro (by rfl) ?_) | refine GOp.via (by rfl) ?_ | (with_reducible first | refine stopO ?_ | refine stopE ?_ | refine stopD ?_ | refine stopW ?_ | refine stopG ?_ | refine stopC ?_ | refine stopR ?_)))
      exact Done'.mk rfl
    · have : t = [] := List.eq_nil_of_length_eq_zero (by omega)
      subst this
      exact Done'.mk rfl
theorem trimSuf_call (t : List UInt8) (H : Heap) {b : Nat} {c0 : Option Nat} (hg : H.get b = some (.cells true [bV 13])) (ht : t.length ≤ 100000) : VCall Tryd.prog 134 [roB t, .sl b 0 1 c0 1] H (fun x K => x = roB (trimCR t) ∧ K = H) := by
  have hs := hasSuf_call t H (c0 := c0) hg ht
  refine VCall.go Tryd.func134 rfl ?_
  cases h13 : t.getLast? == some 13 with
  | true =>
    rw [h13] at hs
    have hl : 1 ≤ t.length := by
      cases t with
      | nil => simp at h13
      | cons a r => simp
    repeat' (first | with_reducible refine And.intro ?_ ?_ | ((with_reducible intro hc); (try simp only [zA, zB, zC, zD, zE, zF, zG, zH, zI, zJ, zK, zL, zM, zN, zO, zP, zQ, zR, zS, zT, zU, zV, zW] at hc); (first | (exact absurd rfl hc) | (exact absurd trivial hc) | (exfalso; omega) | skip)) | exact Is.mk rfl rfl | ((conv => whnf); first | with_reducible refine And.intro ?_ ?_ | with_reducible intro hx | exact Is.mk rfl rfl | (with_reducible first | apply Val.via | apply ValH.via) | refine ifB_intro ?_ ?_ | refine xA (by omega) ?_ | ((refine xB ?_); intro kw hk1 hk2) | refine xC (by omega) ?_ | refine xD ?_ | refine xE (by omega) ?_ | refine xF (by omega) ?_ | refine xG ?_ | refine xH ?_ | refine xI (by omega) ?_ | refine xJ (by omega) ?_ | (with_reducible refine stopA ?_) | refine Exists.intro _ (And.intro (by rfl) ?_) | refine GOp.drawn (by rfl) (by rfl) (Nat.le_of_ble_eq_true (by rfl)) (by rfl) | refine GOp.via (by rfl) ?_ | refine GWP.drawY mixed _ (by kernel_rfl) (by rfl) ?_ | (refine GCall.mk ((hs).mono ?_); rintro _ _ ⟨rfl, rfl⟩) | (with_reducible first | refine stopO ?_ | refine stopE ?_ | refine stopD ?_ | refine stopW ?_ | refine stopG ?_ | refine stopC ?_ | refine stopR ?_)))
    all_goals (first | omega | skip)
    refine Done'.mk ⟨?_, rfl⟩
    have e : trimCR t = t.take (t.length - 1) := by
      unfold trimCR
      rw [if_pos (beq_iff_eq.1 h13), List.dropLast_eq_take]
    rw [e]
    have := roB_slice (l := t) (z := 1) (i := 0) (j := ((t.length : Int) - 1).toNat) rfl (by omega) (by omega)
    refine this.trans (congrArg roB ?_)
    rw [show ((t.length : Int) - 1).toNat = t.length - 1 by omega]
    rfl
  | false =>
    rw [h13] at hs
    repeat' (first | with_reducible refine And.intro ?_ ?_ | ((with_reducible intro hc); (try simp only [zA, zB, zC, zD, zE, zF, zG, zH, zI, zJ, zK, zL, zM, zN, zO, zP, zQ, zR, zS, zT, zU, zV, zW] at hc); (first | (exact absurd rfl hc) | (exact absurd trivial hc) | (exfalso; omega) | skip)) | exact Is.mk rfl rfl | ((conv => whnf); first | with_reducible refine And.intro ?_ ?_ | with_reducible intro hx | exact Is.mk rfl rfl | (with_reducible first | apply Val.via | apply ValH.via) | refine ifB_intro ?_ ?_ | refine xA (by omega) ?_ | ((refine xB ?_); intro kw hk1 hk2) | refine xC (by omega) ?_ | refine xD ?_ | refine xE (by omega) ?_ | refine xF (by omega) ?_ | refine xG ?_ | refine xH ?_ | refine xI (by omega) ?_ | refine xJ (by omega) ?_ | (with_reducible refine stopA ?_) | refine Exists.intro _ (And.intro (by rfl) ?_) | refine GOp.drawn (by rfl) (by rfl) (Nat.le_of_ble_eq_true (by rfl)) (by rfl) | refine GOp.via (by rfl) ?_ | refine GWP.drawY mixed _ (by kernel_rfl) (by rfl) ?_ | (refine GCall.mk ((hs).mono ?_); rintro _ _ ⟨rfl, rfl⟩) | (with_reducible first | refine stopO ?_ | refine stopE ?_ | refine stopD ?_ | refine stopW ?_ | refine stopG ?_ | refine stopC ?_ | refine stopR ?_)))
    all_goals (first | omega | skip)
    refine Done'.mk ⟨?_, rfl⟩
    have e : trimCR t = t := by
      unfold trimCR
      rw [if_neg (beq_eq_false_iff_ne.1 h13)]
    rw [e]
    rfl
theorem hasSufR_call (t : List UInt8) (H : Heap) (ht : t.length ≤ 100000) : VCall Tryd.prog 165 [roB t, .ro 1 [bV 13]] H (fun x K => x = booV (t.getLast? == some 13) ∧ K = H) := by
  refine VCall.pure (by simp [nameless_roB, show Nameless (.ro 1 [bV 13]) from nameless_roB [13]]) (nameless_sc _) ?_
  refine VCall.go Tryd.func165 rfl ?_
  repeat' (first | with_reducible refine And.intro ?_ ?_ | ((with_reducible intro hc); (try simp only [zA, zB, zC, zD, zE, zF, zG, zH, zI, zJ, zK, zL, zM, zN, zO, zP, zQ, zR, zS, zT, zU, zV, zW] at hc); (first | (exact absurd rfl hc) | (exact absurd trivial hc) | (exfalso; omega) | skip)) | ((conv => whnf); first | with_reducible refine And.intro ?_ ?_ | refine ifB_intro ?_ ?_ | refine xA (by omega) ?_ | ((refine xB ?_); intro kw hk1 hk2) | refine xC (by omega) ?_ | refine xD ?_ | refine xE (by omega) ?_ | refine xF (by omega) ?_ | refine xG ?_ | refine xH ?_ | refine xI (by omega) ?_ | refine xJ (by omega) ?_ | (with_reducible refine stopA ?_) | refine Exists.intro _ (And.intro (by rfl) ?_) | refine GOp.via (by rfl) ?_ | (with_reducible first | refine stopO ?_ | refine stopE ?_ | refine stopD ?_ | refine stopW ?_ | refine stopG ?_ | refine stopC ?_ | refine stopR ?_)))
  all_goals (first | omega | skip)
  · refine GCall'.mk (VCall.arg21 (cut1 t (by omega)) ((equal_call (t.drop (t.length - 1)) [13] _).mono ?_))
    rintro _ _ ⟨rfl, rfl⟩
    rw [suf13 t (by omega)]
    repeat' (first | with_reducible refine And.intro ?_ ?_ | ((with_reducible intro hc); (try simp only [zA, zB, zC, zD, zE, zF, zG, zH, zI, zJ, zK, zL, zM, zN, zO, zP, zQ, zR, zS, zT, zU, zV, zW] at hc); (first | (exact absurd rfl hc) | (exact absurd trivial hc) | (exfalso; omega) | skip)) | ((conv => whnf); first | with_reducible refine And.intro ?_ ?_ | refine ifB_intro ?_ ?_ | refine xA (by omega) ?_ | ((refine xB ?_); intro kw hk1 hk2) | refine xC (by omega) ?_ | refine xD ?_ | refine xE (by omega) ?_ | refine xF (by omega) ?_ | refine xG ?_ | refine xH ?_ | refine xI (by omega) ?_ | refine xJ (by omega) ?_ | (with_reducible refine stopA ?_) | refine Exists.intro _ (And.intro (by rfl) ?_) | refine GOp.via (by rfl) ?_ | (with_reducible first | refine stopO ?_ | refine stopE ?_ | refine stopD ?_ | refine stopW ?_ | refine stopG ?_ | refine stopC ?_ | refine stopR ?_)))
    exact Done'.mk rfl
  · have : t = [] := List.eq_nil_of_length_eq_zero (by omega)
    subst this
    exact Done'.mk rfl
theorem trimSufR_call (t : List UInt8) (H : Heap) (ht : t.length ≤ 100000) : VCall Tryd.prog 134 [roB t, .ro 1 [bV 13]] H (fun x K => x = roB (trimCR t) ∧ K = H) := by
  have hs := hasSufR_call t H ht
  refine VCall.go Tryd.func134 rfl ?_
  cases h13 : t.getLast? == some 13 with
  | true =>
    rw [h13] at hs
    have hl : 1 ≤ t.length := by
      cases t with
      | nil => simp at h13
      | cons a r => simp
    repeat' (first | with_reducible refine And.intro ?_ ?_ | ((with_reducible intro hc); (try simp only [zA, zB, zC, zD, zE, zF, zG, zH, zI, zJ, zK, zL, zM, zN, zO, zP, zQ, zR, zS, zT, zU, zV, zW] at hc); (first | (exact absurd rfl hc) | (exact absurd trivial hc) | (exfalso; omega) | skip)) | exact Is.mk rfl rfl | ((conv => whnf); first | with_reducible refine And.intro ?_ ?_ | with_reducible intro hx | exact Is.mk rfl rfl | (with_reducible first | apply Val.via | apply ValH.via) | refine ifB_intro ?_ ?_ | refine xA (by omega) ?_ | ((refine xB ?_); intro kw hk1 hk2) | refine xC (by omega) ?_ | refine xD ?_ | refine xE (by omega) ?_ | refine xF (by omega) ?_ | refine xG ?_ | refine xH ?_ | refine xI (by omega) ?_ | refine xJ (by omega) ?_ | (with_reducible refine stopA ?_) | refine Exists.intro _ (And.intro (by rfl) ?_) | refine GOp.drawn (by rfl) (by rfl) (Nat.le_of_ble_eq_true (by rfl)) (by rfl) | refine GOp.via (by rfl) ?_ | refine GWP.drawY mixed _ (by kernel_rfl) (by rfl) ?_ | (refine GCall.mk ((hs).mono ?_); rintro _ _ ⟨rfl, rfl⟩) | (with_reducible first | refine stopO ?_ | refine stopE ?_ | refine stopD ?_ | refine stopW ?_ | refine stopG ?_ | refine stopC ?_ | refine stopR ?_)))
    all_goals (first | omega | skip)
    refine Done'.mk ⟨?_, rfl⟩
    have e : trimCR t = t.take (t.length - 1) := by
      unfold trimCR
      rw [if_pos (beq_iff_eq.1 h13), List.dropLast_eq_take]
    rw [e]
    have := roB_slice (l := t) (z := 1) (i := 0) (j := ((t.length : Int) - 1).toNat) rfl (by omega) (by omega)
    refine this.trans (congrArg roB ?_)
    rw [show ((t.length : Int) - 1).toNat = t.length - 1 by omega]
    rfl
  | false =>
    rw [h13] at hs
    repeat' (first | with_reducible refine And.intro ?_ ?_ | ((with_reducible intro hc); (try simp only [zA, zB, zC, zD, zE, zF, zG, zH, zI, zJ, zK, zL, zM, zN, zO, zP, zQ, zR, zS, zT, zU, zV, zW] at hc); (first | (exact absurd rfl hc) | (exact absurd trivial hc) | (exfalso; omega) | skip)) | exact Is.mk rfl rfl | ((conv => whnf); first | with_reducible refine And.intro ?_ ?_ | with_reducible intro hx | exact Is.mk rfl rfl | (with_reducible first | apply Val.via | apply ValH.via) | refine ifB_intro ?_ ?_ | refine xA (by omega) ?_ | ((refine xB ?_); intro kw hk1 hk2) | refine xC (by omega) ?_ | refine xD ?_ | refine xE (by omega) ?_ | refine xF (by omega) ?_ | refine xG ?_ | refine xH ?_ | refine xI (by omega) ?_ | refine xJ (by omega) ?_ | (with_reducible refine stopA ?_) | refine Exists.intro _ (And.intro (by rfl) ?_) | refine GOp.drawn (by rfl) (by rfl) (Nat.le_of_ble_eq_true (by rfl)) (by rfl) | refine GOp.via (by rfl) ?_ | refine GWP.drawY mixed _ (by kernel_rfl) (by rfl) ?_ | (refine GCall.mk ((hs).mono ?_); rintro _ _ ⟨rfl, rfl⟩) | (with_reducible first | refine stopO ?_ | refine stopE ?_ | refine stopD ?_ | refine stopW ?_ | refine stopG ?_ | refine stopC ?_ | refine stopR ?_)))
    all_goals (first | omega | skip)
    refine Done'.mk ⟨?_, rfl⟩
    have e : trimCR t = t := by
      unfold trimCR
      rw [if_neg (beq_eq_false_iff_ne.1 h13)]
    rw [e]
    rfl
theorem foldl_count (c : UInt8) : ∀ (l : List UInt8) (n : Int), l.foldl (fun n x => if x == c then n + 1 else n) n = n + l.count c
  | [], n => by simp
  | a :: l, n => by
    rw [List.foldl_cons, foldl_count c l, List.count_cons]
    cases a == c <;> simp <;> omega
theorem ext_count (l : List UInt8) (b : UInt8) (H : Heap) : vextern Tryd.prog 167 [roB l, bV b] H = some (iV (l.count b)) := by
  have hf := Tryd.func167
  have hr : extRow Tryd.f167.name = some Extern.BytealgCount.count := by kernel_rfl
  have hb : Tryd.f167.body = none := rfl
  have ho : Tryd.f167.origin = "" := rfl
  have hp : pureRun Tryd.prog (Extern.BytealgCount.count #[.string ⟨l.toArray⟩, .int .u8 (b.toNat : Int)]) = some (.int .i64 (l.count b)) := by
    rw [ct_eq]
    have e1 : Extern.Bytes.bytesOf (.string ⟨l.toArray⟩) = pure ⟨l.toArray⟩ := rfl
    have e2 : Extern.Bytes.asByte (.int .u8 (b.toNat : Int)) = pure b := by
      show (pure ((b.toNat : Int).toNat.toUInt8) : Sem UInt8) = pure b
      congr 1
      simp
    rw [e1, e2]
    show pureRun Tryd.prog (pure (goInt ((⟨l.toArray⟩ : ByteArray).foldl (fun n x => if x == b then n + 1 else n) ((0 : Nat) : Int)))) = _
    rw [Lib.foldl_data]
    show pureRun Tryd.prog (pure (goInt (l.foldl (fun n x => if x == b then n + 1 else n) ((0 : Nat) : Int)))) = _
    rw [foldl_count]
    show some (Value.int .i64 (((0 : Nat) : Int) + (l.count b : Int))) = _
    rw [show ((0 : Nat) : Int) + (l.count b : Int) = (l.count b : Int) by omega]
  simp only [vextern, hf, hb, ho, if_true, hr, bV, argB_roB]
  rw [hp]
  rfl
theorem count_call (l : List UInt8) {b : Nat} {c : UInt8} {c0 : Option Nat} {H : Heap} (hg : H.get b = some (.cells true [bV c])) : VCall Tryd.prog 136 [roB l, .sl b 0 1 c0 1] H (fun x K => x = iV (l.count c) ∧ K = H) := by
  refine VCall.viewed (args' := [roB l, .ro 1 [bV c]]) (Q := fun v K => v = iV (l.count c)) (.cons (View.of (nameless_roB l)) (.cons ?_ .nil)) ?_ (fun v K e => by subst e; exact Frx.of (exact_sc _))
  · exact View.sl (H := H) (b := b) (o := 0) (n := 1) (z := 1) (c := c0) hg (by simp) (nameless_map nameless_bV [c])
  · refine VCall.go Tryd.func136 rfl ?_
    repeat' (first | with_reducible refine And.intro ?_ ?_ | ((with_reducible intro hc); (try simp only [zA, zB, zC, zD, zE, zF, zG, zH, zI, zJ, zK, zL, zM, zN, zO, zP, zQ, zR, zS, zT, zU, zV, zW] at hc); (first | (exact absurd rfl hc) | (exact absurd trivial hc) | (exfalso; omega) | skip)) | ((conv => whnf); first | with_reducible refine And.intro ?_ ?_ | refine ifB_intro ?_ ?_ | refine xA (by omega) ?_ | ((refine xB ?_); intro kw hk1 hk2) | refine xC (by omega) ?_ | refine xD ?_ | refine xE (by omega) ?_ | refine xF (by omega) ?_ | refine xG ?_ | refine xH ?_ | refine xI (by omega) ?_ | refine xJ (by omega) ?_ | (with_reducible refine stopA ?_) | refine Exists.intro _ (And.intro (by rfl) ?_) | refine GOp.via (by rfl) ?_ | (with_reducible first | refine stopO ?_ | refine stopE ?_ | refine stopD ?_ | refine stopW ?_ | refine stopG ?_ | refine stopC ?_ | refine stopR ?_)))
    all_goals (first | omega | skip)
    refine GExt'.via (ext_count l c _) ?_
    repeat' (first | with_reducible refine And.intro ?_ ?_ | ((with_reducible intro hc); (try simp only [zA, zB, zC, zD, zE, zF, zG, zH, zI, zJ, zK, zL, zM, zN, zO, zP, zQ, zR, zS, zT, zU, zV, zW] at hc); (first | (exact absurd rfl hc) | (exact absurd trivial hc) | (exfalso; omega) | skip)) | ((conv => whnf); first | with_reducible refine And.intro ?_ ?_ | refine ifB_intro ?_ ?_ | refine xA (by omega) ?_ | ((refine xB ?_); intro kw hk1 hk2) | refine xC (by omega) ?_ | refine xD ?_ | refine xE (by omega) ?_ | refine xF (by omega) ?_ | refine xG ?_ | refine xH ?_ | refine xI (by omega) ?_ | refine xJ (by omega) ?_ | (with_reducible refine stopA ?_) | refine Exists.intro _ (And.intro (by rfl) ?_) | refine GOp.via (by rfl) ?_ | (with_reducible first | refine stopO ?_ | refine stopE ?_ | refine stopD ?_ | refine stopW ?_ | refine stopG ?_ | refine stopC ?_ | refine stopR ?_)))
    exact Done'.mk rfl
end Go.Proofs.YtmmjgbdihgdekaaDoor

/- split: the block and the body. -/
namespace Go.Proofs.YtmmjgbdihgdekaaDoor
open Go Go.RowKit
set_option linter.unusedSimpArgs false
set_option linter.unusedVariables false
set_option maxRecDepth 100000
set_option maxHeartbeats 4000000
theorem spH_line : ∀ (p r cur : List UInt8), 10 ∉ p → spH (p ++ 10 :: r) cur = if trimCR (cur ++ p) = [] then ([], r) else (cur ++ p ++ 10 :: (spH r []).1, (spH r []).2)
  | [], r, cur, _ => by
    rw [List.nil_append, List.append_nil]
    show (if (10 : UInt8) = 10 then _ else _) = _
    rw [if_pos rfl]
  | c :: p, r, cur, h => by
    have hc : ¬ c = 10 := fun e => h (by rw [e]; exact List.mem_cons_self)
    rw [List.cons_append]
    show (if c = 10 then _ else _) = _
    rw [if_neg hc, spH_line p r (cur ++ [c]) (fun hm => h (List.mem_cons_of_mem _ hm)), List.append_assoc]
    rfl
theorem spH_last : ∀ (p cur : List UInt8), 10 ∉ p → spH p cur = (cur ++ p, [])
  | [], cur, _ => by rw [List.append_nil]; rfl
  | c :: p, cur, h => by
    have hc : ¬ c = 10 := fun e => h (by rw [e]; exact List.mem_cons_self)
    show (if c = 10 then _ else _) = _
    rw [if_neg hc, spH_last p (cur ++ [c]) (fun hm => h (List.mem_cons_of_mem _ hm)), List.append_assoc]
    rfl
/-- A text up to its first line feed, and behind it. -/
theorem line_at {r : List UInt8} (h : r.contains 10 = true) : r = r.take (r.idxOf 10) ++ 10 :: r.drop (r.idxOf 10 + 1) ∧ 10 ∉ r.take (r.idxOf 10) ∧ r.idxOf 10 < r.length := by
  have hm : (10 : UInt8) ∈ r := by simpa using h
  have hl := List.idxOf_lt_length_of_mem hm
  refine ⟨?_, ?_, hl⟩
  · have : r[r.idxOf 10]'hl = 10 := List.getElem_idxOf hl
    conv => lhs; rw [← List.take_append_drop (r.idxOf 10) r, List.drop_eq_getElem_cons hl, this]
  · intro hm2
    obtain ⟨i, hi, e⟩ := List.getElem_of_mem hm2
    rw [List.length_take] at hi
    rw [List.getElem_take] at e
    have := List.not_of_lt_findIdx (p := (· == (10 : UInt8))) (xs := r) (i := i) (by
      have : r.findIdx (· == (10 : UInt8)) = r.idxOf 10 := rfl
      omega)
    simp [e] at this
end Go.Proofs.YtmmjgbdihgdekaaDoor

/- What is wrong with one more field. -/
namespace Go.Proofs.YtmmjgbdihgdekaaDoor
open Go Go.RowKit
set_option linter.unusedSimpArgs false
set_option linter.unusedVariables false
set_option maxRecDepth 100000
set_option maxHeartbeats 4000000
theorem View.agL {H : Heap} {vs us : List VV} (h : ViewL H vs us) : View H (.ag vs) (.ag us) := fun B w M Z ρ y hr hv => by
  cases hv with
  | @ag _ cs h1 r1 =>
    obtain ⟨cs⟩ := cs
    simp only at h1 r1
    exact .ag (h.pw hr ⟨h1, r1⟩).1 (h.pw hr ⟨h1, r1⟩).2
def rowsF (l : List HF) : List VV := l.flatMap fun f => [roB f.1, roB f.2]
theorem rowsF_len (l : List HF) : (rowsF l).length = l.length * 2 := by
  induction l with
  | nil => rfl
  | cons a r ih =>
    show (roB a.1 :: roB a.2 :: rowsF r).length = _
    simp only [List.length_cons, ih]
    omega
theorem rowsF_nameless (l : List HF) : ∀ v ∈ rowsF l, Nameless v := fun v hv => by
  obtain ⟨f, _, h⟩ := List.mem_flatMap.1 hv
  simp only [List.mem_cons, List.not_mem_nil, or_false] at h
  rcases h with rfl | rfl
  · exact nameless_roB _
  · exact nameless_roB _
theorem rowsF_snoc (l : List HF) (f : HF) : rowsF (l ++ [f]) = rowsF l ++ [roB f.1, roB f.2] := by
  unfold rowsF
  rw [List.flatMap_append, List.flatMap_cons, List.flatMap_nil, List.append_nil]
theorem trimB_sub (l : List UInt8) : (trimB l).Sublist l := by
  have h1 : (trR l).Sublist l := by
    have := (List.dropWhile_sublist blankB (l := l.reverse)).reverse
    rwa [List.reverse_reverse] at this
  exact (List.dropWhile_sublist blankB (l := trR l)).trans h1
theorem trimB_eq {l : List UInt8} (h : (trimB l).length = l.length) : trimB l = l := (trimB_sub l).eq_of_length h
theorem wrong0_call (n : Nat) (rows : List VV) (nm val : List UInt8) (hnm : nm.length ≤ 20000) (hval : val.length ≤ 20000) (hn : n ≤ 20000) (hca : ∀ H, VCall Tryd.prog 139 [roB val, strV [13, 10]] H (fun x K => x = booV (val.contains 13 || val.contains 10) ∧ K = H)) : VCall Tryd.prog 95 [.ag [.ro n rows], .ag [roB nm, roB val]] ⟨[], 0⟩ (fun v _ => v = iV (hwrong (nm, val) n)) := by
  have htok := fun H => token_call nm H (by omega)
  have htr := fun H => trim_call val (by omega) H
  unfold hwrong
  refine VCall.go Tryd.func95 rfl ?_
  cases ht : tokenB nm with
  | false =>
    rw [ht] at htok
    repeat' (first | with_reducible refine And.intro ?_ ?_ | ((with_reducible intro hc); (try simp only [zA, zB, zC, zD, zE, zF, zG, zH, zI, zJ, zK, zL, zM, zN, zO, zP, zQ, zR, zS, zT, zU, zV, zW] at hc); (first | (exact absurd rfl hc) | (exact absurd trivial hc) | (exfalso; omega) | skip)) | exact Is.mk rfl rfl | ((conv => whnf); first | with_reducible refine And.intro ?_ ?_ | with_reducible intro hx | exact Is.mk rfl rfl | (with_reducible first | apply Val.via | apply ValH.via) | refine ifB_intro ?_ ?_ | refine xA (by omega) ?_ | ((refine xB ?_); intro kw hk1 hk2) | refine xC (by omega) ?_ | refine xD ?_ | refine xE (by omega) ?_ | refine xF (by omega) ?_ | refine xG ?_ | refine xH ?_ | refine xI (by omega) ?_ | refine xJ (by omega) ?_ | (with_reducible refine stopA ?_) | refine Exists.intro _ (And.intro (by (first | exact vat_of rfl rfl rfl | rfl)) ?_) | refine GOp.drawn (by rfl) (by rfl) (Nat.le_of_ble_eq_true (by rfl)) (by rfl) | refine GOp.via (by rfl) ?_ | refine GWP.drawY mixed _ (by kernel_rfl) (by rfl) ?_ | (refine GCall.mk ((htok _).mono ?_); rintro _ _ ⟨rfl, rfl⟩) | (with_reducible first | refine stopO ?_ | refine stopE ?_ | refine stopD ?_ | refine stopW ?_ | refine stopG ?_ | refine stopC ?_ | refine stopR ?_)))
    all_goals (first | omega | skip)
    exact Done'.mk rfl
  | true =>
    rw [ht] at htok
    cases ha : (val.contains 13 || val.contains 10) with
    | true =>
      rw [ha] at hca
      repeat' (first | with_reducible refine And.intro ?_ ?_ | ((with_reducible intro hc); (try simp only [zA, zB, zC, zD, zE, zF, zG, zH, zI, zJ, zK, zL, zM, zN, zO, zP, zQ, zR, zS, zT, zU, zV, zW] at hc); (first | (exact absurd rfl hc) | (exact absurd trivial hc) | (exfalso; omega) | skip)) | exact Is.mk rfl rfl | ((conv => whnf); first | with_reducible refine And.intro ?_ ?_ | with_reducible intro hx | exact Is.mk rfl rfl | (with_reducible first | apply Val.via | apply ValH.via) | refine ifB_intro ?_ ?_ | refine xA (by omega) ?_ | ((refine xB ?_); intro kw hk1 hk2) | refine xC (by omega) ?_ | refine xD ?_ | refine xE (by omega) ?_ | refine xF (by omega) ?_ | refine xG ?_ | refine xH ?_ | refine xI (by omega) ?_ | refine xJ (by omega) ?_ | (with_reducible refine stopA ?_) | refine Exists.intro _ (And.intro (by (first | exact vat_of rfl rfl rfl | rfl)) ?_) | refine GOp.drawn (by rfl) (by rfl) (Nat.le_of_ble_eq_true (by rfl)) (by rfl) | refine GOp.via (by rfl) ?_ | refine GWP.drawY mixed _ (by kernel_rfl) (by rfl) ?_ | (first | (refine GCall.mk ((htok _).mono ?_); rintro _ _ ⟨rfl, rfl⟩) | (refine GCall.mk ((hca _).mono ?_); rintro _ _ ⟨rfl, rfl⟩)) | (with_reducible first | refine stopO ?_ | refine stopE ?_ | refine stopD ?_ | refine stopW ?_ | refine stopG ?_ | refine stopC ?_ | refine stopR ?_)))
      all_goals (first | omega | skip)
      exact Done'.mk rfl
    | false =>
      rw [ha] at hca
      repeat' (first | with_reducible refine And.intro ?_ ?_ | ((with_reducible intro hc); (try simp only [zA, zB, zC, zD, zE, zF, zG, zH, zI, zJ, zK, zL, zM, zN, zO, zP, zQ, zR, zS, zT, zU, zV, zW] at hc); (first | (exact absurd rfl hc) | (exact absurd trivial hc) | (exfalso; omega) | skip)) | exact Is.mk rfl rfl | ((conv => whnf); first | with_reducible refine And.intro ?_ ?_ | with_reducible intro hx | exact Is.mk rfl rfl | (with_reducible first | apply Val.via | apply ValH.via) | refine ifB_intro ?_ ?_ | refine xA (by omega) ?_ | ((refine xB ?_); intro kw hk1 hk2) | refine xC (by omega) ?_ | refine xD ?_ | refine xE (by omega) ?_ | refine xF (by omega) ?_ | refine xG ?_ | refine xH ?_ | refine xI (by omega) ?_ | refine xJ (by omega) ?_ | (with_reducible refine stopA ?_) | refine Exists.intro _ (And.intro (by (first | exact vat_of rfl rfl rfl | rfl)) ?_) | refine GOp.drawn (by rfl) (by rfl) (Nat.le_of_ble_eq_true (by rfl)) (by rfl) | refine GOp.via (by rfl) ?_ | refine GWP.drawY mixed _ (by kernel_rfl) (by rfl) ?_ | (first | (refine GCall.mk ((htok _).mono ?_); rintro _ _ ⟨rfl, rfl⟩) | (refine GCall.mk ((hca _).mono ?_); rintro _ _ ⟨rfl, rfl⟩) | (refine GCall.mk ((htr _).mono ?_); rintro _ _ ⟨rfl, rfl⟩)) | (with_reducible first | refine stopO ?_ | refine stopE ?_ | refine stopD ?_ | refine stopW ?_ | refine stopG ?_ | refine stopC ?_ | refine stopR ?_)))
      all_goals (first | omega | skip)
      · have : (trimB val == val) = false := by
          rw [beq_eq_false_iff_ne]
          intro e
          rw [e] at hc
          exact hc rfl
        simp only [this]
        exact Done'.mk rfl
      · have : (trimB val == val) = true := beq_iff_eq.2 (trimB_eq (by omega))
        simp only [this]
        rw [if_pos (show 64 ≤ n by omega)]
        exact Done'.mk rfl
      · have : (trimB val == val) = true := beq_iff_eq.2 (trimB_eq (by omega))
        simp only [this]
        rw [if_neg (show ¬ 64 ≤ n by omega)]
        exact Done'.mk rfl
theorem wrong_call {H : Heap} {b : Nat} {acc : List HF} (f : HF) (hnm : f.1.length ≤ 20000) (hval : f.2.length ≤ 20000) (hn : acc.length ≤ 20000) (hca : ∀ H, VCall Tryd.prog 139 [roB f.2, strV [13, 10]] H (fun x K => x = booV (f.2.contains 13 || f.2.contains 10) ∧ K = H)) (hg : H.get b = some (.opt (rowsF acc))) : VCall Tryd.prog 95 [.ag [.gs b acc.length 2], .ag [roB f.1, roB f.2]] H (fun v K => v = iV (hwrong f acc.length) ∧ K = H) :=
  VCall.viewed (args' := [.ag [.ro acc.length (rowsF acc)], .ag [roB f.1, roB f.2]]) (Q := fun v _ => v = iV (hwrong f acc.length))
    (.cons (View.agL (.cons (View.gs hg (rowsF_len acc) (rowsF_nameless acc)) .nil)) (.cons (View.of (nameless_ag (by simp [nameless_roB]))) .nil))
    (wrong0_call acc.length (rowsF acc) f.1 f.2 hnm hval hn hca) (fun v K e => by subst e; exact Frx.of (exact_sc _))
end Go.Proofs.YtmmjgbdihgdekaaDoor

/- Lines, and what Parse of headers hands back. -/
namespace Go.Proofs.YtmmjgbdihgdekaaDoor
open Go Go.RowKit
set_option linter.unusedSimpArgs false
set_option linter.unusedVariables false
set_option maxRecDepth 100000
set_option maxHeartbeats 40000000
def linesV (l : List UInt8) : VV := .fn (.func 135) [] [.rp [roB l] 0]
theorem lf_call (b : UInt8) (H : Heap) : VCall Tryd.prog 137 [bV b] H (fun x K => x = booV (b == 10) ∧ K = H) :=
  VCall.bytes mixed 60 (fun b => b == 10) (by kernel_rfl) b H
theorem Frz.agL {K : Heap} : ∀ {vs us : List VV}, FrzL K vs us → Frz K (.ag vs) (.ag us) := fun {vs us} h B w Z ρ ρ2 y hr hv => by
  cases hv with
  | @ag _ cs h1 r1 =>
    obtain ⟨cs⟩ := cs
    simp only at h1 r1
    have key : ∀ {vs us : List VV} {cs : List Value}, FrzL K vs us → Pw (VRel w Z ρ) vs cs → Pw (VRel w (fun k => Z k ∨ (B.heap.size ≤ k ∧ k < w.heap.size)) ρ2) us cs := by
      intro vs us cs h
      induction h generalizing cs with
      | nil => intro hp; exact ⟨hp.1, fun i u c hu => by simp at hu⟩
      | @cons v u r s hvu _ ih =>
        intro hp
        match cs, hp with
        | c :: ct, hp =>
          have h0 := hp.2 0 v c rfl rfl
          have ht : Pw (VRel w Z ρ) r ct := ⟨by have := hp.1; simpa using this, fun i u c hu hc => hp.2 (i + 1) u c (by simpa using hu) (by simpa using hc)⟩
          exact Pw.cons (hvu B w Z ρ ρ2 c hr h0) (ih ht)
        | [], hp => have := hp.1; simp at this
    have := key h ⟨h1, r1⟩
    exact .ag this.1 this.2
/-- Fields as they are handed over. -/
def fldsV (l : List HF) : VV := .ro l.length (rowsF l)
def hresV : HR → VV
  | .err e => .tp [.ag [.ro 0 []], .ro 0 [], iV e]
  | .ok l b => .tp [.ag [fldsV l], roB b, iV 0]
theorem sty_F : SlTy Tryd.prog 74 2 48 := ⟨⟨_, _, _, rfl, rfl, rfl, rfl, rfl, rfl⟩⟩
theorem trimCR_len (l : List UInt8) : (trimCR l).length ≤ l.length := by
  unfold trimCR
  split
  · rw [List.length_dropLast]; omega
  · omega
theorem frz_hres {K : Heap} {b : Nat} {l : List HF} {body : List UInt8} (hg : K.get b = some (.opt (rowsF l))) : Frz K (.tp [.ag [.gs b l.length 2], roB body, iV 0]) (hresV (.ok l body)) :=
  Frz.tp (.cons (Frz.agL (.cons (Frz.gs hg (rowsF_len l) (rowsF_nameless l)) .nil)) (.cons (Frz.of (nameless_roB _)) (.cons (Frz.of (nameless_sc _)) .nil)))
theorem frz_err {K : Heap} {b : Nat} {l : List HF} (e : Nat) : Frz K (.tp [.ag [.sc (.slice none 0 0)], .sc (.slice none 0 0), iV e]) (hresV (.err e)) :=
  Frz.tp (.cons (Frz.agL (.cons Frz.nil0 .nil)) (.cons Frz.nil0 (.cons (Frz.of (nameless_sc _)) .nil)))
theorem spH_len : ∀ (t cur : List UInt8), (spH t cur).1.length + (spH t cur).2.length ≤ cur.length + t.length
  | [], cur => by show cur.length + 0 ≤ _; omega
  | b :: t, cur => by
    unfold spH
    by_cases hb : b = 10
    · rw [if_pos hb]
      by_cases hc : trimCR cur = []
      · rw [if_pos hc]
        simp only [List.length_nil, List.length_cons]; omega
      · rw [if_neg hc]
        have := spH_len t []
        simp only [List.length_append, List.length_cons, List.length_nil] at *
        omega
    · rw [if_neg hb]
      have := spH_len t (cur ++ [b])
      simp only [List.length_append, List.length_cons, List.length_nil] at *
      omega
/-- What Parse hands back, as it stands when it ends. -/
def HQ : HR → VV → Heap → Prop
  | .err e, v, _ => v = .tp [.ag [.sc (.slice none 0 0)], .sc (.slice none 0 0), iV e]
  | .ok l body, v, K => ∃ b, v = .tp [.ag [.gs b l.length 2], roB body, iV 0] ∧ K.get b = some (.opt (rowsF l))
theorem HQ.frz : ∀ {r : HR} {v : VV} {K : Heap}, HQ r v K → Frz K v (hresV r)
  | .err e, v, K, h => by
    have h2 : v = .tp [.ag [.sc (.slice none 0 0)], .sc (.slice none 0 0), iV e] := h
    subst h2
    exact frz_err (b := 0) (l := []) e
  | .ok l body, v, K, h => by
    obtain ⟨b, rfl, hg⟩ := h
    exact frz_hres hg
theorem HQ.snoc {K : Heap} {b : Nat} {l : List HF} {f : HF} {body : List UInt8} (hg : K.get b = some (.opt (rowsF l ++ [roB f.1, roB f.2]))) : HQ (.ok (l ++ [f]) body) (.tp [.ag [.gs b (l.length + 1) 2], roB body, iV 0]) K := by
  rw [← rowsF_snoc] at hg
  exact ⟨b, by rw [List.length_append]; rfl, hg⟩
end Go.Proofs.YtmmjgbdihgdekaaDoor

/- The fixed fact of layer 11, by reckoning. -/
namespace Go.Proofs.YtmmjgbdihgdekaaDoor
open Go Go.RowKit
set_option maxRecDepth 100000
set_option maxHeartbeats 4000000
theorem lives11_run : isV (vcallO orcC Tryd.prog (vcodeO orcC Tryd.prog 80) 42 [] ⟨[], 0⟩) (.sc (.bool true)) = true := by kernel_rfl
theorem lives11_call (H : Heap) : VCall Tryd.prog 42 [] H (fun x K => x = .sc (.bool true) ∧ K = H) := VCall.closedO orcC_ok mixed 80 (by simp) lives11_run
end Go.Proofs.YtmmjgbdihgdekaaDoor

