/- The document's Read of sixty-four signs, walked. -/
import Derived.Test.YtmmjgbdihgdekaaDoorB2
namespace Go.Proofs.YtmmjgbdihgdekaaDoor
open Go Go.RowKit
set_option linter.unusedSimpArgs false
set_option linter.unusedVariables false
set_option maxRecDepth 100000
set_option maxHeartbeats 4000000
/-- The last of the first so many signs that is c. -/
def atZ (c : UInt8) : Nat → Int
  | 0 => -1
  | n + 1 => if sgn n = c then (n : Int) else atZ c n
def cbits (c : UInt8) : List UInt8 := if atZ c 64 < 0 then [] else [UInt8.ofNat ((atZ c 64).toNat / 32 % 2), UInt8.ofNat ((atZ c 64).toNat / 16 % 2), UInt8.ofNat ((atZ c 64).toNat / 8 % 2), UInt8.ofNat ((atZ c 64).toNat / 4 % 2), UInt8.ofNat ((atZ c 64).toNat / 2 % 2), UInt8.ofNat ((atZ c 64).toNat % 2)]
def rbits : List UInt8 → List UInt8
  | [] => []
  | c :: r => cbits c ++ rbits r
def v8 (l : List UInt8) : UInt8 := l.foldl (fun x b => 2 * x + b) 0
def bytes8 : List UInt8 → List UInt8
  | a :: b :: c :: d :: e :: f :: g :: h :: r => v8 [a, b, c, d, e, f, g, h] :: bytes8 r
  | _ => []
def r64 (t : List UInt8) : List UInt8 := bytes8 (rbits t)
def r64R (t : List UInt8) : VV := if b64 (r64 t) = t then .tp [roB (r64 t), booV true] else .tp [.ro 0 [], booV false]
theorem atZ_succ (c : UInt8) (n : Nat) : atZ c (n + 1) = if sgn n = c then (n : Int) else atZ c n := rfl
theorem atZ_lt (c : UInt8) : ∀ n, -1 ≤ atZ c n ∧ atZ c n < n
  | 0 => by simp [atZ]
  | n + 1 => by
    unfold atZ
    have := atZ_lt c n
    split <;> omega
theorem ext1 {l : List UInt8} {i : Nat} {c : UInt8} (h : l[i]? = some c) {x y : Nat} (hx : x = i) (hy : y = i + 1) : (⟨l.toArray⟩ : ByteArray).extract x y = ⟨[c].toArray⟩ := by
  subst hx hy
  obtain ⟨hi, e⟩ := List.getElem?_eq_some_iff.1 h
  apply ByteArray.ext
  simp only [ByteArray.data_extract, List.extract_toArray]
  congr 1
  rw [List.extract_eq_take_drop, List.drop_eq_getElem_cons hi, e, show x + 1 - x = 1 by omega]
  rfl
theorem bit_i64 : ∀ k : Fin 6, ∀ a : Fin 64, bitZ .and .i64 (shrZ .i64 ((a.val : Nat) : Int) ((k.val : Nat) : Int)) 1 = ((a.val / 2 ^ k.val % 2 : Nat) : Int) := by rw [bitZ_def, shrZ_def]; decide +kernel
/-- What has been told, begun by a slice of nothing. -/
def byE (z nm : Nat) : List UInt8 → VV
  | [] => .sl z 0 0 (some 0) 1
  | a :: r => .sl nm 0 (r.length + 1) none 1
theorem cbits_at {c : UInt8} {A j : Nat} (hA : atZ c 64 = A) (hj : j < 6) : (cbits c)[j]? = some (UInt8.ofNat (A / 2 ^ (5 - j) % 2)) := by
  unfold cbits
  rw [hA, if_neg (by omega), Int.toNat_natCast]
  match j, hj with
  | 0, _ => rfl
  | 1, _ => rfl
  | 2, _ => rfl
  | 3, _ => rfl
  | 4, _ => rfl
  | 5, _ => simp
theorem cbits_len (c : UInt8) : (cbits c).length ≤ 6 := by
  unfold cbits; split <;> simp
theorem bit_at64 {A j : Nat} (hA : A < 64) (hj : j < 6) {z : Int} (hz : z = A) : bitZ .and .i64 (shrZ .i64 z (5 - (j : Int))) 1 = ((A / 2 ^ (5 - j) % 2 : Nat) : Int) := by
  subst hz
  have h := bit_i64 ⟨5 - j, by omega⟩ ⟨A, hA⟩
  have e : (5 - (j : Int)) = ((5 - j : Nat) : Int) := by omega
  rw [e]
  exact h
theorem rbits_next {t : List UInt8} {i : Nat} {c : UInt8} (h : t[i]? = some c) : rbits (t.drop i) = cbits c ++ rbits (t.drop (i + 1)) := by
  obtain ⟨hi, e⟩ := List.getElem?_eq_some_iff.1 h
  rw [List.drop_eq_getElem_cons hi, e]; rfl
theorem bit_bV {x : Nat} (hx : x < 2) {z : Int} (hz : z = (x : Int)) : VV.sc (.int .u8 z) = bV (UInt8.ofNat x) := by
  subst hz
  refine congrArg (fun z => VV.sc (.int .u8 z)) ?_
  rw [UInt8.toNat_ofNat']
  omega
theorem bytes8_short : ∀ {l : List UInt8}, l.length < 8 → bytes8 l = []
  | [], _ => rfl
  | [_], _ => rfl
  | [_, _], _ => rfl
  | [_, _, _], _ => rfl
  | [_, _, _, _], _ => rfl
  | [_, _, _, _, _], _ => rfl
  | [_, _, _, _, _, _], _ => rfl
  | [_, _, _, _, _, _, _], _ => rfl
  | _ :: _ :: _ :: _ :: _ :: _ :: _ :: _ :: _, h => by simp at h; omega
theorem bytes8_next : ∀ {l : List UInt8}, 8 ≤ l.length → bytes8 l = v8 (l.take 8) :: bytes8 (l.drop 8)
  | _ :: _ :: _ :: _ :: _ :: _ :: _ :: _ :: r, _ => rfl
  | [], h => by simp at h
  | [_], h => by simp at h
  | [_, _], h => by simp at h
  | [_, _, _], h => by simp at h
  | [_, _, _, _], h => by simp at h
  | [_, _, _, _, _], h => by simp at h
  | [_, _, _, _, _, _], h => by simp at h
  | [_, _, _, _, _, _, _], h => by simp at h
theorem v8_next (l : List UInt8) (x : UInt8) : v8 (l ++ [x]) = 2 * v8 l + x := by
  unfold v8; rw [List.foldl_append]; rfl
theorem v8_val (a x : UInt8) : VV.sc (.int .u8 ((2 * (a.toNat : Int) % 256 + (x.toNat : Int)) % 256)) = bV (2 * a + x) := by
  refine congrArg (fun z => VV.sc (.int .u8 z)) ?_
  rw [UInt8.toNat_add, UInt8.toNat_mul]
  have : (2 : UInt8).toNat = 2 := rfl
  rw [this]
  omega
theorem view_by {H : Heap} {b n : Nat} {c : Option Nat} {vs : List VV} {d : List UInt8} (hg : H.get b = some (.cells true vs)) (hv : vs = d.map bV) (hn : n = d.length) : View H (.sl b 0 n c 1) (roB d) := by
  subst hv hn
  have := View.sl (H := H) (b := b) (o := 0) (n := d.length) (z := 1) (c := c) hg (by simp) (nameless_map nameless_bV d)
  rw [List.drop_zero, Nat.mul_one, List.take_of_length_le (by simp)] at this
  unfold roB
  exact this
theorem frz_by {K : Heap} {b n : Nat} {c : Option Nat} {vs : List VV} {d : List UInt8} (hg : K.get b = some (.cells true vs)) (hv : vs = d.map bV) (hn : n = d.length) : Frz K (.sl b 0 n c 1) (roB d) := by
  subst hv hn
  have := Frz.sl (K := K) (b := b) (o := 0) (n := d.length) (z := 1) (c := c) hg (by simp) (nameless_map nameless_bV d)
  rw [List.drop_zero, Nat.mul_one, List.take_of_length_le (by simp)] at this
  exact this
theorem rwriteV_call {H : Heap} {v : VV} {d : List UInt8} (hv : View H v (roB d)) (hl : d.length ≤ 1000) : VCall Tryd.prog 18 [v] H (fun x K => x = strV (b64 d) ∧ K = H) :=
  VCall.viewed (args' := [roB d]) (Q := fun v K => v = strV (b64 d)) (.cons hv .nil) ((rwrite_call d _ hl).mono fun x K e => e.1) (fun v K e => by subst e; exact Frx.of (exact_sc _))
theorem rread_call (t : List UInt8) (H : Heap) (hl : t.length ≤ 1000) : VCall Tryd.prog 63 [strV t] H (fun x K => x = r64R t ∧ K = H) := by
  have hsz := str_size t
  refine VCall.frozen (Q := fun v K => Frz K v (r64R t)) (by simp [nameless_strV]) ?_ (fun v K h => h)
  refine VCall.go Tryd.func63 rfl ?_
  repeat' (first | with_reducible refine And.intro ?_ ?_ | ((with_reducible intro hc); (try simp only [zA, zB, zC, zD, zE, zF, zG, zH, zI, zJ, zK, zL, zM, zN, zO, zP, zQ, zR, zS, zT, zU, zV, zW] at hc); (first | (exact absurd rfl hc) | (exact absurd trivial hc) | (exfalso; omega) | skip)) | ((conv => whnf); first | with_reducible refine And.intro ?_ ?_ | refine ifB_intro ?_ ?_ | refine xA (by omega) ?_ | ((refine xB ?_); intro kw hk1 hk2) | refine xC (by omega) ?_ | refine xD ?_ | refine xE (by omega) ?_ | refine xF (by omega) ?_ | refine xG ?_ | refine xH ?_ | refine xI (by omega) ?_ | refine xJ (by omega) ?_ | (with_reducible refine stopA ?_) | refine Exists.intro _ (And.intro (by rfl) ?_) | refine GOp.via (by rfl) ?_ | (with_reducible first | refine stopO ?_ | refine stopE ?_ | refine stopD ?_ | refine stopW ?_ | refine stopG ?_ | refine stopC ?_ | refine stopR ?_)))
  refine GWP'.mk (GWP.loopA (α := List UInt8 × Nat) [6, 7, 8, 14, 15, 16, 17, 18, 19, 20, 21, 22, 23, 24, 25, 26, 27, 28, 29, 30, 31, 32, 33, 34, 35, 36, 37, 38, 39, 40, 41, 42, 43, 44, 45, 46, 47, 48] [0] (fun a => a.2 ≤ t.length ∧ a.1 ++ rbits (t.drop a.2) = rbits t ∧ a.1.length ≤ 6 * a.2) (fun a => [(4, byE 0 1 a.1), (5, iV a.2)]) (fun a => (0, .cells true []) :: byO 1 a.1) 2 (fun a => t.length - a.2) ([], 0) ⟨Nat.zero_le _, rfl, Nat.le_refl _⟩ ⟨rfl, rfl, (by repeat' (first | exact trivial | refine And.intro rfl ?_)), [], _, rfl, ⟨⟨_, rfl, .slL (by decide)⟩, ⟨_, rfl, .sc⟩, trivial⟩, .cons rfl rfl (.cells .nil) .nil⟩ ?_)
  rintro ⟨bs, i⟩ ⟨h1, h2, h3⟩
  simp only at h1 h2 h3 ⊢
  by_cases hil : i < t.length
  · obtain ⟨c, hb⟩ : ∃ c, t[i]? = some c := ⟨t[i], List.getElem?_eq_getElem hil⟩
    have hext := ext1 hb (x := ((i : Int)).toNat) (y := ((i : Int) + 1).toNat) (by omega) (by omega)
    cases bs with
    | nil =>
      repeat' (first | with_reducible refine And.intro ?_ ?_ | ((with_reducible intro hc); (try simp only [zA, zB, zC, zD, zE, zF, zG, zH, zI, zJ, zK, zL, zM, zN, zO, zP, zQ, zR, zS, zT, zU, zV, zW] at hc); (first | (exact absurd rfl hc) | (exact absurd trivial hc) | (exfalso; omega) | skip)) | ((conv => whnf); first | with_reducible refine And.intro ?_ ?_ | refine ifB_intro ?_ ?_ | refine xA (by omega) ?_ | ((refine xB ?_); intro kw hk1 hk2) | refine xC (by omega) ?_ | refine xD ?_ | refine xE (by omega) ?_ | refine xF (by omega) ?_ | refine xG ?_ | refine xH ?_ | refine xI (by omega) ?_ | refine xJ (by omega) ?_ | (with_reducible refine stopA ?_) | refine Exists.intro _ (And.intro (by rfl) ?_) | refine GOp.via (by rfl) ?_ | (with_reducible first | refine stopO ?_ | refine stopE ?_ | refine stopD ?_ | refine stopW ?_ | refine stopG ?_ | refine stopC ?_ | refine stopR ?_)))
      all_goals (first | omega | skip)
      (refine GWP'.mk (GWP.loopA (α := Nat) [20, 21, 22, 23, 24, 25, 26, 27, 28, 29, 30, 31, 32] [] (fun n => n ≤ 64) (fun n => [(6, iV (atZ c n)), (7, iV n)]) (fun _ => []) 2 (fun n => 64 - n) 0 (Nat.zero_le _) ⟨rfl, rfl, (by repeat' (first | exact trivial | refine And.intro rfl ?_)), [], _, rfl, ⟨⟨_, rfl, .sc⟩, ⟨_, rfl, .sc⟩, trivial⟩, .nil⟩ ?_)); rintro n hn; (have hat := atZ_lt c n); (refine Decidable.byCases (p := n < 64) (fun hn64 => ?_) (fun hn64 => ?_)); (focus ((repeat' (first | with_reducible refine And.intro ?_ ?_ | ((with_reducible intro hc); (try simp only [zA, zB, zC, zD, zE, zF, zG, zH, zI, zJ, zK, zL, zM, zN, zO, zP, zQ, zR, zS, zT, zU, zV, zW] at hc); (first | (exact absurd rfl hc) | (exact absurd trivial hc) | (exfalso; omega) | skip)) | exact Is.mk rfl rfl | ((conv => whnf); first | with_reducible refine And.intro ?_ ?_ | with_reducible intro hx | exact Is.mk rfl rfl | (with_reducible first | apply Val.via | apply ValH.via) | refine ifB_intro ?_ ?_ | refine xA (by omega) ?_ | ((refine xB ?_); intro kw hk1 hk2) | refine xC (by omega) ?_ | refine xD ?_ | refine xE (by omega) ?_ | refine xF (by omega) ?_ | refine xG ?_ | refine xH ?_ | refine xI (by omega) ?_ | refine xJ (by omega) ?_ | (with_reducible refine stopA ?_) | refine Exists.intro _ (And.intro (by rfl) ?_) | refine GOp.drawn (by rfl) (by rfl) (Nat.le_of_ble_eq_true (by rfl)) (by rfl) | refine GOp.via (by rfl) ?_ | refine GWP.drawY mixed _ (by kernel_rfl) (by rfl) ?_ | (refine GCall.mk ((sign_call n (by omega) _ (by omega) _).mono ?_); rintro _ _ ⟨rfl, rfl⟩) | (with_reducible first | refine stopO ?_ | refine stopE ?_ | refine stopD ?_ | refine stopW ?_ | refine stopG ?_ | refine stopC ?_ | refine stopR ?_)))); (all_goals (first | omega | skip)); (all_goals (rw [hext] at hc; simp only [List.toList_toArray, List.cons.injEq, and_true] at hc)); (all_goals (refine Done'.mk ⟨n + 1, by omega, by omega, rfl, rfl, (by repeat' (first | exact trivial | refine And.intro rfl ?_)), [], _, rfl, ⟨⟨_, rfl, RenV.eq (intV_eq (by rw [atZ_succ]; first | rw [if_pos hc] | rw [if_neg hc])) (nameless_sc _)⟩, ⟨_, rfl, RenV.eq (intV_eq (by omega)) (nameless_sc _)⟩, trivial⟩, .nil⟩)))); (have hn64' : n = 64 := by omega); subst hn64'; clear hn hn64
      repeat' (first | with_reducible refine And.intro ?_ ?_ | ((with_reducible intro hc); (try simp only [zA, zB, zC, zD, zE, zF, zG, zH, zI, zJ, zK, zL, zM, zN, zO, zP, zQ, zR, zS, zT, zU, zV, zW] at hc); (first | (exact absurd rfl hc) | (exact absurd trivial hc) | (exfalso; omega) | skip)) | ((conv => whnf); first | with_reducible refine And.intro ?_ ?_ | refine ifB_intro ?_ ?_ | refine xA (by omega) ?_ | ((refine xB ?_); intro kw hk1 hk2) | refine xC (by omega) ?_ | refine xD ?_ | refine xE (by omega) ?_ | refine xF (by omega) ?_ | refine xG ?_ | refine xH ?_ | refine xI (by omega) ?_ | refine xJ (by omega) ?_ | (with_reducible refine stopA ?_) | refine Exists.intro _ (And.intro (by rfl) ?_) | refine GOp.via (by rfl) ?_ | (with_reducible first | refine stopO ?_ | refine stopE ?_ | refine stopD ?_ | refine stopW ?_ | refine stopG ?_ | refine stopC ?_ | refine stopR ?_)))
      all_goals (first | omega | skip)
      (refine GWP'.mk (GWP.loopA (α := List UInt8 × Nat) [33, 34, 35, 36, 37, 38, 39, 40, 41, 42, 43, 44, 45, 46, 47, 48] [] (fun a => a.2 ≤ 6 ∧ a.1 = ([] : List UInt8) ++ (cbits c).take a.2 ∧ (0 < a.2 → 0 ≤ atZ c 64)) (fun a => [(4, byE 0 2 a.1), (8, iV (5 - (a.2 : Int)))]) (fun a => byO 2 a.1) 3 (fun a => 6 - a.2) (([] : List UInt8), 0) ⟨by simp only; omega, by simp, fun h => absurd h (by simp)⟩ ⟨rfl, rfl, (by repeat' (first | exact trivial | refine And.intro rfl ?_)), [], _, rfl, ⟨⟨_, rfl, (.slL (by decide))⟩, ⟨_, rfl, RenV.eq (intV_eq (by simp)) (nameless_sc _)⟩, trivial⟩, .nil⟩ ?_)); rintro ⟨q, j⟩ ⟨j1, j2, j3⟩; simp only at j1 j2 j3 ⊢
      by_cases hgo : j < 6 ∧ 0 ≤ atZ c 64
      · obtain ⟨A, hA⟩ : ∃ A : Nat, atZ c 64 = A := ⟨(atZ c 64).toNat, by omega⟩
        have hA64 : A < 64 := by omega
        have hbz := bit_at64 hA64 hgo.1 hA
        have hcb := cbits_at hA hgo.1
        have hb2 : A / 2 ^ (5 - j) % 2 < 2 := Nat.mod_lt _ (by omega)
        have htk := take_next hcb
        generalize hbi : A / 2 ^ (5 - j) % 2 = bi at hbz hcb hb2 htk
        cases q with
        | nil =>
          repeat' (first | with_reducible refine And.intro ?_ ?_ | ((with_reducible intro hc); (try simp only [zA, zB, zC, zD, zE, zF, zG, zH, zI, zJ, zK, zL, zM, zN, zO, zP, zQ, zR, zS, zT, zU, zV, zW] at hc); (first | (exact absurd rfl hc) | (exact absurd trivial hc) | (exfalso; omega) | skip)) | ((conv => whnf); first | with_reducible refine And.intro ?_ ?_ | refine ifB_intro ?_ ?_ | refine xA (by omega) ?_ | ((refine xB ?_); intro kw hk1 hk2) | refine xC (by omega) ?_ | refine xD ?_ | refine xE (by omega) ?_ | refine xF (by omega) ?_ | refine xG ?_ | refine xH ?_ | refine xI (by omega) ?_ | refine xJ (by omega) ?_ | (with_reducible refine stopA ?_) | refine Exists.intro _ (And.intro (by rfl) ?_) | refine GOp.via (by rfl) ?_ | (with_reducible first | refine stopO ?_ | refine stopE ?_ | refine stopD ?_ | refine stopW ?_ | refine stopG ?_ | refine stopC ?_ | refine stopR ?_)))
          all_goals (first | omega | skip)
          exact Done'.mk ⟨([UInt8.ofNat bi], j + 1), ⟨by simp only; omega, by simp only; rw [htk, ← List.append_assoc, ← j2]; rfl, fun _ => hgo.2⟩, by simp only; omega, rfl, rfl, (by repeat' (first | exact trivial | refine And.intro rfl ?_)), [(4, 2)], _, rfl, ⟨⟨_, rfl, .sl (List.Mem.head _)⟩, ⟨_, rfl, RenV.eq (intV_eq (by simp only; omega)) (nameless_sc _)⟩, trivial⟩, .cons rfl rfl (.cells (.cons (RenV.eq (bit_bV hb2 hbz) (nameless_bV _)) .nil)) .nil⟩
        | cons q0 qr =>
          have hql : qr.length ≤ 9000 := by
            have := congrArg List.length j2
            have := cbits_len c
            simp at *
            omega
          have hq1 : (q0 :: qr).length = qr.length + 1 := rfl
          repeat' (first | with_reducible refine And.intro ?_ ?_ | ((with_reducible intro hc); (try simp only [zA, zB, zC, zD, zE, zF, zG, zH, zI, zJ, zK, zL, zM, zN, zO, zP, zQ, zR, zS, zT, zU, zV, zW] at hc); (first | (exact absurd rfl hc) | (exact absurd trivial hc) | (exfalso; omega) | skip)) | ((conv => whnf); first | with_reducible refine And.intro ?_ ?_ | refine ifB_intro ?_ ?_ | refine xA (by omega) ?_ | ((refine xB ?_); intro kw hk1 hk2) | refine xC (by omega) ?_ | refine xD ?_ | refine xE (by omega) ?_ | refine xF (by omega) ?_ | refine xG ?_ | refine xH ?_ | refine xI (by omega) ?_ | refine xJ (by omega) ?_ | (with_reducible refine stopA ?_) | refine Exists.intro _ (And.intro (by rfl) ?_) | refine GOp.via (by rfl) ?_ | (with_reducible first | refine stopO ?_ | refine stopE ?_ | refine stopD ?_ | refine stopW ?_ | refine stopG ?_ | refine stopC ?_ | refine stopR ?_)))
          all_goals (first | omega | skip)
          apply GOp'.via
          case h => exact vop_append rfl (vapp_grow sty_b (d := .slice 5) Tryd.underlying22 (by intro k h; cases h) (b := 2) (n := qr.length + 1) (m := 1) (l := [VV.sc (.int .u8 (bitZ .and .i64 (shrZ .i64 (atZ c 64) (5 - (j : Int))) 1))]) (vs := bV q0 :: qr.map bV) (by rfl) (by rfl) (by omega) (by rfl) (by simp) (by omega) (by omega))
          repeat' (first | with_reducible refine And.intro ?_ ?_ | ((with_reducible intro hc); (try simp only [zA, zB, zC, zD, zE, zF, zG, zH, zI, zJ, zK, zL, zM, zN, zO, zP, zQ, zR, zS, zT, zU, zV, zW] at hc); (first | (exact absurd rfl hc) | (exact absurd trivial hc) | (exfalso; omega) | skip)) | ((conv => whnf); first | with_reducible refine And.intro ?_ ?_ | refine ifB_intro ?_ ?_ | refine xA (by omega) ?_ | ((refine xB ?_); intro kw hk1 hk2) | refine xC (by omega) ?_ | refine xD ?_ | refine xE (by omega) ?_ | refine xF (by omega) ?_ | refine xG ?_ | refine xH ?_ | refine xI (by omega) ?_ | refine xJ (by omega) ?_ | (with_reducible refine stopA ?_) | refine Exists.intro _ (And.intro (by rfl) ?_) | refine GOp.via (by rfl) ?_ | (with_reducible first | refine stopO ?_ | refine stopE ?_ | refine stopD ?_ | refine stopW ?_ | refine stopG ?_ | refine stopC ?_ | refine stopR ?_)))
          all_goals (first | omega | skip)
          exact Done'.mk ⟨(q0 :: (qr ++ [UInt8.ofNat bi]), j + 1), ⟨by simp only; omega, by simp only; rw [htk, ← List.append_assoc, ← j2]; rfl, fun _ => hgo.2⟩, by simp only; omega, rfl, rfl, (by repeat' (first | exact trivial | refine And.intro rfl ?_)), [(4, 2)], _, rfl, ⟨⟨_, rfl, .slE (List.Mem.head _) (by simp)⟩, ⟨_, rfl, RenV.eq (intV_eq (by simp only; omega)) (nameless_sc _)⟩, trivial⟩, .cons rfl rfl (.cells (RenL.eq (grow_by q0 qr (UInt8.ofNat bi) (bit_bV hb2 hbz)) (bytes_nameless _ _))) .nil⟩
      · have hq : q ++ rbits (t.drop (i + 1)) = rbits t := by
          rw [← h2, rbits_next hb, ← List.append_assoc]
          congr 1
          rw [j2]
          congr 1
          by_cases ha : 0 ≤ atZ c 64
          · rw [List.take_of_length_le (by have := cbits_len c; omega)]
          · unfold cbits; rw [if_pos (by omega)]; simp
        have hql : q.length ≤ 6 * (i + 1) := by
          have := congrArg List.length j2
          have := cbits_len c
          simp at *
          omega
        cases q with
        | nil =>
          repeat' (first | with_reducible refine And.intro ?_ ?_ | ((with_reducible intro hc); (try simp only [zA, zB, zC, zD, zE, zF, zG, zH, zI, zJ, zK, zL, zM, zN, zO, zP, zQ, zR, zS, zT, zU, zV, zW] at hc); (first | (exact absurd rfl hc) | (exact absurd trivial hc) | (exfalso; omega) | skip)) | ((conv => whnf); first | with_reducible refine And.intro ?_ ?_ | refine ifB_intro ?_ ?_ | refine xA (by omega) ?_ | ((refine xB ?_); intro kw hk1 hk2) | refine xC (by omega) ?_ | refine xD ?_ | refine xE (by omega) ?_ | refine xF (by omega) ?_ | refine xG ?_ | refine xH ?_ | refine xI (by omega) ?_ | refine xJ (by omega) ?_ | (with_reducible refine stopA ?_) | refine Exists.intro _ (And.intro (by rfl) ?_) | refine GOp.via (by rfl) ?_ | (with_reducible first | refine stopO ?_ | refine stopE ?_ | refine stopD ?_ | refine stopW ?_ | refine stopG ?_ | refine stopC ?_ | refine stopR ?_)))
          all_goals (first | omega | skip)
          all_goals (refine Done'.mk ⟨([], i + 1), ⟨by simp only; omega, hq, hql⟩, by simp only; omega, rfl, rfl, (by repeat' (first | exact trivial | refine And.intro rfl ?_)), [], _, rfl, ⟨⟨_, rfl, .slL (by decide)⟩, ⟨_, rfl, RenV.eq (intV_eq (by simp only; omega)) (nameless_sc _)⟩, trivial⟩, .cons rfl rfl (.cells .nil) .nil⟩)
        | cons q0 qr =>
          repeat' (first | with_reducible refine And.intro ?_ ?_ | ((with_reducible intro hc); (try simp only [zA, zB, zC, zD, zE, zF, zG, zH, zI, zJ, zK, zL, zM, zN, zO, zP, zQ, zR, zS, zT, zU, zV, zW] at hc); (first | (exact absurd rfl hc) | (exact absurd trivial hc) | (exfalso; omega) | skip)) | ((conv => whnf); first | with_reducible refine And.intro ?_ ?_ | refine ifB_intro ?_ ?_ | refine xA (by omega) ?_ | ((refine xB ?_); intro kw hk1 hk2) | refine xC (by omega) ?_ | refine xD ?_ | refine xE (by omega) ?_ | refine xF (by omega) ?_ | refine xG ?_ | refine xH ?_ | refine xI (by omega) ?_ | refine xJ (by omega) ?_ | (with_reducible refine stopA ?_) | refine Exists.intro _ (And.intro (by rfl) ?_) | refine GOp.via (by rfl) ?_ | (with_reducible first | refine stopO ?_ | refine stopE ?_ | refine stopD ?_ | refine stopW ?_ | refine stopG ?_ | refine stopC ?_ | refine stopR ?_)))
          all_goals (first | omega | skip)
          all_goals (refine Done'.mk ⟨(q0 :: qr, i + 1), ⟨by simp only; omega, hq, hql⟩, by simp only; omega, rfl, rfl, (by repeat' (first | exact trivial | refine And.intro rfl ?_)), [(2, 1)], _, rfl, ⟨⟨_, rfl, .sl (List.Mem.head _)⟩, ⟨_, rfl, RenV.eq (intV_eq (by simp only; omega)) (nameless_sc _)⟩, trivial⟩, .cons rfl rfl (.cells .nil) (.cons rfl rfl (.cells (RenL.of (bytes_nameless _ _))) .nil)⟩)
    | cons b0 br =>
      have hbl : (b0 :: br).length = br.length + 1 := rfl
      repeat' (first | with_reducible refine And.intro ?_ ?_ | ((with_reducible intro hc); (try simp only [zA, zB, zC, zD, zE, zF, zG, zH, zI, zJ, zK, zL, zM, zN, zO, zP, zQ, zR, zS, zT, zU, zV, zW] at hc); (first | (exact absurd rfl hc) | (exact absurd trivial hc) | (exfalso; omega) | skip)) | ((conv => whnf); first | with_reducible refine And.intro ?_ ?_ | refine ifB_intro ?_ ?_ | refine xA (by omega) ?_ | ((refine xB ?_); intro kw hk1 hk2) | refine xC (by omega) ?_ | refine xD ?_ | refine xE (by omega) ?_ | refine xF (by omega) ?_ | refine xG ?_ | refine xH ?_ | refine xI (by omega) ?_ | refine xJ (by omega) ?_ | (with_reducible refine stopA ?_) | refine Exists.intro _ (And.intro (by rfl) ?_) | refine GOp.via (by rfl) ?_ | (with_reducible first | refine stopO ?_ | refine stopE ?_ | refine stopD ?_ | refine stopW ?_ | refine stopG ?_ | refine stopC ?_ | refine stopR ?_)))
      all_goals (first | omega | skip)
      (refine GWP'.mk (GWP.loopA (α := Nat) [20, 21, 22, 23, 24, 25, 26, 27, 28, 29, 30, 31, 32] [] (fun n => n ≤ 64) (fun n => [(6, iV (atZ c n)), (7, iV n)]) (fun _ => []) 2 (fun n => 64 - n) 0 (Nat.zero_le _) ⟨rfl, rfl, (by repeat' (first | exact trivial | refine And.intro rfl ?_)), [], _, rfl, ⟨⟨_, rfl, .sc⟩, ⟨_, rfl, .sc⟩, trivial⟩, .nil⟩ ?_)); rintro n hn; (have hat := atZ_lt c n); (refine Decidable.byCases (p := n < 64) (fun hn64 => ?_) (fun hn64 => ?_)); (focus ((repeat' (first | with_reducible refine And.intro ?_ ?_ | ((with_reducible intro hc); (try simp only [zA, zB, zC, zD, zE, zF, zG, zH, zI, zJ, zK, zL, zM, zN, zO, zP, zQ, zR, zS, zT, zU, zV, zW] at hc); (first | (exact absurd rfl hc) | (exact absurd trivial hc) | (exfalso; omega) | skip)) | exact Is.mk rfl rfl | ((conv => whnf); first | with_reducible refine And.intro ?_ ?_ | with_reducible intro hx | exact Is.mk rfl rfl | (with_reducible first | apply Val.via | apply ValH.via) | refine ifB_intro ?_ ?_ | refine xA (by omega) ?_ | ((refine xB ?_); intro kw hk1 hk2) | refine xC (by omega) ?_ | refine xD ?_ | refine xE (by omega) ?_ | refine xF (by omega) ?_ | refine xG ?_ | refine xH ?_ | refine xI (by omega) ?_ | refine xJ (by omega) ?_ | (with_reducible refine stopA ?_) | refine Exists.intro _ (And.intro (by rfl) ?_) | refine GOp.drawn (by rfl) (by rfl) (Nat.le_of_ble_eq_true (by rfl)) (by rfl) | refine GOp.via (by rfl) ?_ | refine GWP.drawY mixed _ (by kernel_rfl) (by rfl) ?_ | (refine GCall.mk ((sign_call n (by omega) _ (by omega) _).mono ?_); rintro _ _ ⟨rfl, rfl⟩) | (with_reducible first | refine stopO ?_ | refine stopE ?_ | refine stopD ?_ | refine stopW ?_ | refine stopG ?_ | refine stopC ?_ | refine stopR ?_)))); (all_goals (first | omega | skip)); (all_goals (rw [hext] at hc; simp only [List.toList_toArray, List.cons.injEq, and_true] at hc)); (all_goals (refine Done'.mk ⟨n + 1, by omega, by omega, rfl, rfl, (by repeat' (first | exact trivial | refine And.intro rfl ?_)), [], _, rfl, ⟨⟨_, rfl, RenV.eq (intV_eq (by rw [atZ_succ]; first | rw [if_pos hc] | rw [if_neg hc])) (nameless_sc _)⟩, ⟨_, rfl, RenV.eq (intV_eq (by omega)) (nameless_sc _)⟩, trivial⟩, .nil⟩)))); (have hn64' : n = 64 := by omega); subst hn64'; clear hn hn64
      repeat' (first | with_reducible refine And.intro ?_ ?_ | ((with_reducible intro hc); (try simp only [zA, zB, zC, zD, zE, zF, zG, zH, zI, zJ, zK, zL, zM, zN, zO, zP, zQ, zR, zS, zT, zU, zV, zW] at hc); (first | (exact absurd rfl hc) | (exact absurd trivial hc) | (exfalso; omega) | skip)) | ((conv => whnf); first | with_reducible refine And.intro ?_ ?_ | refine ifB_intro ?_ ?_ | refine xA (by omega) ?_ | ((refine xB ?_); intro kw hk1 hk2) | refine xC (by omega) ?_ | refine xD ?_ | refine xE (by omega) ?_ | refine xF (by omega) ?_ | refine xG ?_ | refine xH ?_ | refine xI (by omega) ?_ | refine xJ (by omega) ?_ | (with_reducible refine stopA ?_) | refine Exists.intro _ (And.intro (by rfl) ?_) | refine GOp.via (by rfl) ?_ | (with_reducible first | refine stopO ?_ | refine stopE ?_ | refine stopD ?_ | refine stopW ?_ | refine stopG ?_ | refine stopC ?_ | refine stopR ?_)))
      all_goals (first | omega | skip)
      (refine GWP'.mk (GWP.loopA (α := List UInt8 × Nat) [33, 34, 35, 36, 37, 38, 39, 40, 41, 42, 43, 44, 45, 46, 47, 48] [1] (fun a => a.2 ≤ 6 ∧ a.1 = (b0 :: br) ++ (cbits c).take a.2 ∧ (0 < a.2 → 0 ≤ atZ c 64)) (fun a => [(4, byE 0 2 a.1), (8, iV (5 - (a.2 : Int)))]) (fun a => byO 2 a.1) 3 (fun a => 6 - a.2) ((b0 :: br), 0) ⟨by simp only; omega, by simp, fun h => absurd h (by simp)⟩ ⟨rfl, rfl, (by repeat' (first | exact trivial | refine And.intro rfl ?_)), [(1, 2)], _, rfl, ⟨⟨_, rfl, (.sl (List.Mem.head _))⟩, ⟨_, rfl, RenV.eq (intV_eq (by simp)) (nameless_sc _)⟩, trivial⟩, (.cons rfl rfl (.cells (RenL.of (bytes_nameless b0 br))) .nil)⟩ ?_)); rintro ⟨q, j⟩ ⟨j1, j2, j3⟩; simp only at j1 j2 j3 ⊢
      by_cases hgo : j < 6 ∧ 0 ≤ atZ c 64
      · obtain ⟨A, hA⟩ : ∃ A : Nat, atZ c 64 = A := ⟨(atZ c 64).toNat, by omega⟩
        have hA64 : A < 64 := by omega
        have hbz := bit_at64 hA64 hgo.1 hA
        have hcb := cbits_at hA hgo.1
        have hb2 : A / 2 ^ (5 - j) % 2 < 2 := Nat.mod_lt _ (by omega)
        have htk := take_next hcb
        generalize hbi : A / 2 ^ (5 - j) % 2 = bi at hbz hcb hb2 htk
        cases q with
        | nil =>
          repeat' (first | with_reducible refine And.intro ?_ ?_ | ((with_reducible intro hc); (try simp only [zA, zB, zC, zD, zE, zF, zG, zH, zI, zJ, zK, zL, zM, zN, zO, zP, zQ, zR, zS, zT, zU, zV, zW] at hc); (first | (exact absurd rfl hc) | (exact absurd trivial hc) | (exfalso; omega) | skip)) | ((conv => whnf); first | with_reducible refine And.intro ?_ ?_ | refine ifB_intro ?_ ?_ | refine xA (by omega) ?_ | ((refine xB ?_); intro kw hk1 hk2) | refine xC (by omega) ?_ | refine xD ?_ | refine xE (by omega) ?_ | refine xF (by omega) ?_ | refine xG ?_ | refine xH ?_ | refine xI (by omega) ?_ | refine xJ (by omega) ?_ | (with_reducible refine stopA ?_) | refine Exists.intro _ (And.intro (by rfl) ?_) | refine GOp.via (by rfl) ?_ | (with_reducible first | refine stopO ?_ | refine stopE ?_ | refine stopD ?_ | refine stopW ?_ | refine stopG ?_ | refine stopC ?_ | refine stopR ?_)))
          all_goals (first | omega | skip)
          exact Done'.mk ⟨([UInt8.ofNat bi], j + 1), ⟨by simp only; omega, by simp only; rw [htk, ← List.append_assoc, ← j2]; rfl, fun _ => hgo.2⟩, by simp only; omega, rfl, rfl, (by repeat' (first | exact trivial | refine And.intro rfl ?_)), [(4, 2)], _, rfl, ⟨⟨_, rfl, .sl (List.Mem.head _)⟩, ⟨_, rfl, RenV.eq (intV_eq (by simp only; omega)) (nameless_sc _)⟩, trivial⟩, .cons rfl rfl (.cells (.cons (RenV.eq (bit_bV hb2 hbz) (nameless_bV _)) .nil)) .nil⟩
        | cons q0 qr =>
          have hql : qr.length ≤ 9000 := by
            have := congrArg List.length j2
            have := cbits_len c
            simp at *
            omega
          have hq1 : (q0 :: qr).length = qr.length + 1 := rfl
          repeat' (first | with_reducible refine And.intro ?_ ?_ | ((with_reducible intro hc); (try simp only [zA, zB, zC, zD, zE, zF, zG, zH, zI, zJ, zK, zL, zM, zN, zO, zP, zQ, zR, zS, zT, zU, zV, zW] at hc); (first | (exact absurd rfl hc) | (exact absurd trivial hc) | (exfalso; omega) | skip)) | ((conv => whnf); first | with_reducible refine And.intro ?_ ?_ | refine ifB_intro ?_ ?_ | refine xA (by omega) ?_ | ((refine xB ?_); intro kw hk1 hk2) | refine xC (by omega) ?_ | refine xD ?_ | refine xE (by omega) ?_ | refine xF (by omega) ?_ | refine xG ?_ | refine xH ?_ | refine xI (by omega) ?_ | refine xJ (by omega) ?_ | (with_reducible refine stopA ?_) | refine Exists.intro _ (And.intro (by rfl) ?_) | refine GOp.via (by rfl) ?_ | (with_reducible first | refine stopO ?_ | refine stopE ?_ | refine stopD ?_ | refine stopW ?_ | refine stopG ?_ | refine stopC ?_ | refine stopR ?_)))
          all_goals (first | omega | skip)
          apply GOp'.via
          case h => exact vop_append rfl (vapp_grow sty_b (d := .slice 5) Tryd.underlying22 (by intro k h; cases h) (b := 2) (n := qr.length + 1) (m := 1) (l := [VV.sc (.int .u8 (bitZ .and .i64 (shrZ .i64 (atZ c 64) (5 - (j : Int))) 1))]) (vs := bV q0 :: qr.map bV) (by rfl) (by rfl) (by omega) (by rfl) (by simp) (by omega) (by omega))
          repeat' (first | with_reducible refine And.intro ?_ ?_ | ((with_reducible intro hc); (try simp only [zA, zB, zC, zD, zE, zF, zG, zH, zI, zJ, zK, zL, zM, zN, zO, zP, zQ, zR, zS, zT, zU, zV, zW] at hc); (first | (exact absurd rfl hc) | (exact absurd trivial hc) | (exfalso; omega) | skip)) | ((conv => whnf); first | with_reducible refine And.intro ?_ ?_ | refine ifB_intro ?_ ?_ | refine xA (by omega) ?_ | ((refine xB ?_); intro kw hk1 hk2) | refine xC (by omega) ?_ | refine xD ?_ | refine xE (by omega) ?_ | refine xF (by omega) ?_ | refine xG ?_ | refine xH ?_ | refine xI (by omega) ?_ | refine xJ (by omega) ?_ | (with_reducible refine stopA ?_) | refine Exists.intro _ (And.intro (by rfl) ?_) | refine GOp.via (by rfl) ?_ | (with_reducible first | refine stopO ?_ | refine stopE ?_ | refine stopD ?_ | refine stopW ?_ | refine stopG ?_ | refine stopC ?_ | refine stopR ?_)))
          all_goals (first | omega | skip)
          exact Done'.mk ⟨(q0 :: (qr ++ [UInt8.ofNat bi]), j + 1), ⟨by simp only; omega, by simp only; rw [htk, ← List.append_assoc, ← j2]; rfl, fun _ => hgo.2⟩, by simp only; omega, rfl, rfl, (by repeat' (first | exact trivial | refine And.intro rfl ?_)), [(4, 2)], _, rfl, ⟨⟨_, rfl, .slE (List.Mem.head _) (by simp)⟩, ⟨_, rfl, RenV.eq (intV_eq (by simp only; omega)) (nameless_sc _)⟩, trivial⟩, .cons rfl rfl (.cells (RenL.eq (grow_by q0 qr (UInt8.ofNat bi) (bit_bV hb2 hbz)) (bytes_nameless _ _))) .nil⟩
      · have hq : q ++ rbits (t.drop (i + 1)) = rbits t := by
          rw [← h2, rbits_next hb, ← List.append_assoc]
          congr 1
          rw [j2]
          congr 1
          by_cases ha : 0 ≤ atZ c 64
          · rw [List.take_of_length_le (by have := cbits_len c; omega)]
          · unfold cbits; rw [if_pos (by omega)]; simp
        have hql : q.length ≤ 6 * (i + 1) := by
          have := congrArg List.length j2
          have := cbits_len c
          simp at *
          omega
        cases q with
        | nil =>
          repeat' (first | with_reducible refine And.intro ?_ ?_ | ((with_reducible intro hc); (try simp only [zA, zB, zC, zD, zE, zF, zG, zH, zI, zJ, zK, zL, zM, zN, zO, zP, zQ, zR, zS, zT, zU, zV, zW] at hc); (first | (exact absurd rfl hc) | (exact absurd trivial hc) | (exfalso; omega) | skip)) | ((conv => whnf); first | with_reducible refine And.intro ?_ ?_ | refine ifB_intro ?_ ?_ | refine xA (by omega) ?_ | ((refine xB ?_); intro kw hk1 hk2) | refine xC (by omega) ?_ | refine xD ?_ | refine xE (by omega) ?_ | refine xF (by omega) ?_ | refine xG ?_ | refine xH ?_ | refine xI (by omega) ?_ | refine xJ (by omega) ?_ | (with_reducible refine stopA ?_) | refine Exists.intro _ (And.intro (by rfl) ?_) | refine GOp.via (by rfl) ?_ | (with_reducible first | refine stopO ?_ | refine stopE ?_ | refine stopD ?_ | refine stopW ?_ | refine stopG ?_ | refine stopC ?_ | refine stopR ?_)))
          all_goals (first | omega | skip)
          all_goals (refine Done'.mk ⟨([], i + 1), ⟨by simp only; omega, hq, hql⟩, by simp only; omega, rfl, rfl, (by repeat' (first | exact trivial | refine And.intro rfl ?_)), [], _, rfl, ⟨⟨_, rfl, .slL (by decide)⟩, ⟨_, rfl, RenV.eq (intV_eq (by simp only; omega)) (nameless_sc _)⟩, trivial⟩, .cons rfl rfl (.cells .nil) .nil⟩)
        | cons q0 qr =>
          repeat' (first | with_reducible refine And.intro ?_ ?_ | ((with_reducible intro hc); (try simp only [zA, zB, zC, zD, zE, zF, zG, zH, zI, zJ, zK, zL, zM, zN, zO, zP, zQ, zR, zS, zT, zU, zV, zW] at hc); (first | (exact absurd rfl hc) | (exact absurd trivial hc) | (exfalso; omega) | skip)) | ((conv => whnf); first | with_reducible refine And.intro ?_ ?_ | refine ifB_intro ?_ ?_ | refine xA (by omega) ?_ | ((refine xB ?_); intro kw hk1 hk2) | refine xC (by omega) ?_ | refine xD ?_ | refine xE (by omega) ?_ | refine xF (by omega) ?_ | refine xG ?_ | refine xH ?_ | refine xI (by omega) ?_ | refine xJ (by omega) ?_ | (with_reducible refine stopA ?_) | refine Exists.intro _ (And.intro (by rfl) ?_) | refine GOp.via (by rfl) ?_ | (with_reducible first | refine stopO ?_ | refine stopE ?_ | refine stopD ?_ | refine stopW ?_ | refine stopG ?_ | refine stopC ?_ | refine stopR ?_)))
          all_goals (first | omega | skip)
          all_goals (refine Done'.mk ⟨(q0 :: qr, i + 1), ⟨by simp only; omega, hq, hql⟩, by simp only; omega, rfl, rfl, (by repeat' (first | exact trivial | refine And.intro rfl ?_)), [(2, 1)], _, rfl, ⟨⟨_, rfl, .sl (List.Mem.head _)⟩, ⟨_, rfl, RenV.eq (intV_eq (by simp only; omega)) (nameless_sc _)⟩, trivial⟩, .cons rfl rfl (.cells .nil) (.cons rfl rfl (.cells (RenL.of (bytes_nameless _ _))) .nil)⟩)
  · have hie : i = t.length := by omega
    subst hie
    rw [List.drop_length] at h2
    have hbs : bs = rbits t := by rw [← h2]; simp [rbits]
    have hr : r64 t = bytes8 bs := by rw [hbs]; rfl
    clear h2
    have key : r64R t = if b64 (bytes8 bs) = t then .tp [roB (bytes8 bs), booV true] else .tp [.ro 0 [], booV false] := by unfold r64R; rw [hr]
    rw [key]
    clear key hr hbs
    cases bs with
    | nil =>
      repeat' (first | with_reducible refine And.intro ?_ ?_ | ((with_reducible intro hc); (try simp only [zA, zB, zC, zD, zE, zF, zG, zH, zI, zJ, zK, zL, zM, zN, zO, zP, zQ, zR, zS, zT, zU, zV, zW] at hc); (first | (exact absurd rfl hc) | (exact absurd trivial hc) | (exfalso; omega) | skip)) | ((conv => whnf); first | with_reducible refine And.intro ?_ ?_ | refine ifB_intro ?_ ?_ | refine xA (by omega) ?_ | ((refine xB ?_); intro kw hk1 hk2) | refine xC (by omega) ?_ | refine xD ?_ | refine xE (by omega) ?_ | refine xF (by omega) ?_ | refine xG ?_ | refine xH ?_ | refine xI (by omega) ?_ | refine xJ (by omega) ?_ | (with_reducible refine stopA ?_) | refine Exists.intro _ (And.intro (by rfl) ?_) | refine GOp.via (by rfl) ?_ | (with_reducible first | refine stopO ?_ | refine stopE ?_ | refine stopD ?_ | refine stopW ?_ | refine stopG ?_ | refine stopC ?_ | refine stopR ?_)))
      all_goals (first | omega | skip)
      refine GWP'.mk (GWP.rounds1 ?_)
      repeat' (first | with_reducible refine And.intro ?_ ?_ | ((with_reducible intro hc); (try simp only [zA, zB, zC, zD, zE, zF, zG, zH, zI, zJ, zK, zL, zM, zN, zO, zP, zQ, zR, zS, zT, zU, zV, zW] at hc); (first | (exact absurd rfl hc) | (exact absurd trivial hc) | (exfalso; omega) | skip)) | ((conv => whnf); first | with_reducible refine And.intro ?_ ?_ | refine ifB_intro ?_ ?_ | refine xA (by omega) ?_ | ((refine xB ?_); intro kw hk1 hk2) | refine xC (by omega) ?_ | refine xD ?_ | refine xE (by omega) ?_ | refine xF (by omega) ?_ | refine xG ?_ | refine xH ?_ | refine xI (by omega) ?_ | refine xJ (by omega) ?_ | (with_reducible refine stopA ?_) | refine Exists.intro _ (And.intro (by rfl) ?_) | refine GOp.via (by rfl) ?_ | (with_reducible first | refine stopO ?_ | refine stopE ?_ | refine stopD ?_ | refine stopW ?_ | refine stopG ?_ | refine stopC ?_ | refine stopR ?_)))
      all_goals (first | omega | skip)
      refine GCall'.mk ((rwriteV_call (d := []) (view_by (b := 2) rfl rfl rfl) (by simp)).mono ?_)
      rintro _ _ ⟨rfl, rfl⟩
      repeat' (first | with_reducible refine And.intro ?_ ?_ | ((with_reducible intro hc); (try simp only [zA, zB, zC, zD, zE, zF, zG, zH, zI, zJ, zK, zL, zM, zN, zO, zP, zQ, zR, zS, zT, zU, zV, zW] at hc); (first | (exact absurd rfl hc) | (exact absurd trivial hc) | (exfalso; omega) | skip)) | ((conv => whnf); first | with_reducible refine And.intro ?_ ?_ | refine ifB_intro ?_ ?_ | refine xA (by omega) ?_ | ((refine xB ?_); intro kw hk1 hk2) | refine xC (by omega) ?_ | refine xD ?_ | refine xE (by omega) ?_ | refine xF (by omega) ?_ | refine xG ?_ | refine xH ?_ | refine xI (by omega) ?_ | refine xJ (by omega) ?_ | (with_reducible refine stopA ?_) | refine Exists.intro _ (And.intro (by rfl) ?_) | refine GOp.via (by rfl) ?_ | (with_reducible first | refine stopO ?_ | refine stopE ?_ | refine stopD ?_ | refine stopW ?_ | refine stopG ?_ | refine stopC ?_ | refine stopR ?_)))
      all_goals (first | omega | skip)
      (all_goals (refine Done'.mk ?_; show Frz _ _ (if b64 ([] : List UInt8) = t then .tp [roB ([] : List UInt8), booV true] else .tp [.ro 0 [], booV false]); first | (rw [if_neg hc]; exact Frz.tp (.cons Frz.nil0 (.cons (Frz.of (nameless_sc _)) .nil))) | (rw [if_pos hc]; exact Frz.tp (.cons (frz_by (d := []) rfl rfl rfl) (.cons (Frz.of (nameless_sc _)) .nil)))))
    | cons b0 br =>
      have hbl : (b0 :: br).length = br.length + 1 := rfl
      repeat' (first | with_reducible refine And.intro ?_ ?_ | ((with_reducible intro hc); (try simp only [zA, zB, zC, zD, zE, zF, zG, zH, zI, zJ, zK, zL, zM, zN, zO, zP, zQ, zR, zS, zT, zU, zV, zW] at hc); (first | (exact absurd rfl hc) | (exact absurd trivial hc) | (exfalso; omega) | skip)) | ((conv => whnf); first | with_reducible refine And.intro ?_ ?_ | refine ifB_intro ?_ ?_ | refine xA (by omega) ?_ | ((refine xB ?_); intro kw hk1 hk2) | refine xC (by omega) ?_ | refine xD ?_ | refine xE (by omega) ?_ | refine xF (by omega) ?_ | refine xG ?_ | refine xH ?_ | refine xI (by omega) ?_ | refine xJ (by omega) ?_ | (with_reducible refine stopA ?_) | refine Exists.intro _ (And.intro (by rfl) ?_) | refine GOp.via (by rfl) ?_ | (with_reducible first | refine stopO ?_ | refine stopE ?_ | refine stopD ?_ | refine stopW ?_ | refine stopG ?_ | refine stopC ?_ | refine stopR ?_)))
      all_goals (first | omega | skip)
      refine GWP'.mk (GWP.loopA (α := List UInt8 × Nat) [11, 12, 50, 51, 52, 53, 54, 55, 56, 57, 58, 59, 60, 61, 62, 63, 64, 65, 66, 67, 68, 69, 70, 71, 72, 73] [2] (fun a => 8 * a.2 ≤ br.length + 1 ∧ a.1 ++ bytes8 ((b0 :: br).drop (8 * a.2)) = bytes8 (b0 :: br) ∧ a.1.length = a.2) (fun a => [(9, byE 2 3 a.1), (10, iV (8 * (a.2 : Int)))]) (fun a => (2, .cells true []) :: byO 3 a.1) 4 (fun a => br.length + 1 - 8 * a.2) ([], 0) ⟨by simp, by simp, rfl⟩ ⟨rfl, rfl, (by repeat' (first | exact trivial | refine And.intro rfl ?_)), [], _, rfl, ⟨⟨_, rfl, .slL (Nat.lt_succ_self 2)⟩, ⟨_, rfl, RenV.eq rfl (nameless_sc _)⟩, trivial⟩, .cons rfl rfl (.cells .nil) .nil⟩ ?_)
      rintro ⟨out, g⟩ ⟨g1, g2, g3⟩
      simp only at g1 g2 g3 ⊢
      by_cases hgl : 8 * g + 8 ≤ br.length + 1
      · obtain ⟨xs, hxs8⟩ : ∃ xs, xs = ((b0 :: br).drop (8 * g)).take 8 := ⟨_, rfl⟩
        have hat : ∀ k, k < 8 → ∃ x, (b0 :: br)[8 * g + k]? = some x ∧ xs[k]? = some x := fun k hk => by
          refine ⟨(b0 :: br)[8 * g + k]'(by simp; omega), List.getElem?_eq_getElem _, ?_⟩
          rw [hxs8, List.getElem?_take, if_pos hk, List.getElem?_drop]
          exact List.getElem?_eq_getElem _
        have hnext : bytes8 ((b0 :: br).drop (8 * g)) = v8 xs :: bytes8 ((b0 :: br).drop (8 * (g + 1))) := by
          rw [bytes8_next (by simp; omega), hxs8, List.drop_drop, show 8 * (g + 1) = 8 * g + 8 by omega]
        cases out with
        | nil =>
          repeat' (first | with_reducible refine And.intro ?_ ?_ | ((with_reducible intro hc); (try simp only [zA, zB, zC, zD, zE, zF, zG, zH, zI, zJ, zK, zL, zM, zN, zO, zP, zQ, zR, zS, zT, zU, zV, zW] at hc); (first | (exact absurd rfl hc) | (exact absurd trivial hc) | (exfalso; omega) | skip)) | ((conv => whnf); first | with_reducible refine And.intro ?_ ?_ | refine ifB_intro ?_ ?_ | refine xA (by omega) ?_ | ((refine xB ?_); intro kw hk1 hk2) | refine xC (by omega) ?_ | refine xD ?_ | refine xE (by omega) ?_ | refine xF (by omega) ?_ | refine xG ?_ | refine xH ?_ | refine xI (by omega) ?_ | refine xJ (by omega) ?_ | (with_reducible refine stopA ?_) | refine Exists.intro _ (And.intro (by rfl) ?_) | refine GOp.via (by rfl) ?_ | (with_reducible first | refine stopO ?_ | refine stopE ?_ | refine stopD ?_ | refine stopW ?_ | refine stopG ?_ | refine stopC ?_ | refine stopR ?_)))
          all_goals (first | omega | skip)
          (refine GWP'.mk (GWP.loopA (α := Nat) [57, 58, 59, 60, 61, 62, 63, 64, 65, 66, 67, 68, 69] [] (fun k => k ≤ 8) (fun k => [(11, bV (v8 (xs.take k))), (12, iV k)]) (fun _ => []) 4 (fun k => 8 - k) 0 (Nat.zero_le _) ⟨rfl, rfl, (by repeat' (first | exact trivial | refine And.intro rfl ?_)), [], _, rfl, ⟨⟨_, rfl, RenV.eq rfl (nameless_bV _)⟩, ⟨_, rfl, .sc⟩, trivial⟩, .nil⟩ ?_)); rintro k hk; (refine Decidable.byCases (p := k < 8) (fun hk8 => ?_) (fun hk8 => ?_)); (focus (obtain ⟨x, hx, hxs⟩ := hat k hk8; (have hvn : v8 (xs.take (k + 1)) = 2 * v8 (xs.take k) + x := by { rw [take_next hxs, v8_next] }); (have hqk : 0 + (8 * (g : Int) + (k : Int)).toNat * 1 = 8 * g + k := by omega); generalize v8 (xs.take k) = vv at *; (repeat' (first | with_reducible refine And.intro ?_ ?_ | ((with_reducible intro hc); (try simp only [zA, zB, zC, zD, zE, zF, zG, zH, zI, zJ, zK, zL, zM, zN, zO, zP, zQ, zR, zS, zT, zU, zV, zW] at hc); (first | (exact absurd rfl hc) | (exact absurd trivial hc) | (exfalso; omega) | skip)) | ((conv => whnf); first | with_reducible refine And.intro ?_ ?_ | refine ifB_intro ?_ ?_ | refine xA (by omega) ?_ | ((refine xB ?_); intro kw hk1 hk2) | refine xC (by omega) ?_ | refine xD ?_ | refine xE (by omega) ?_ | refine xF (by omega) ?_ | refine xG ?_ | refine xH ?_ | refine xI (by omega) ?_ | refine xJ (by omega) ?_ | (with_reducible refine stopA ?_) | refine Exists.intro _ (And.intro (by first | exact vat_of vagg_u8 (map_at hx) hqk | rfl) ?_) | refine GOp.via (by rfl) ?_ | (with_reducible first | refine stopO ?_ | refine stopE ?_ | refine stopD ?_ | refine stopW ?_ | refine stopG ?_ | refine stopC ?_ | refine stopR ?_)))); (all_goals (first | omega | skip)); (all_goals (exact Done'.mk ⟨k + 1, by omega, by omega, rfl, rfl, (by repeat' (first | exact trivial | refine And.intro rfl ?_)), [], _, rfl, ⟨⟨_, rfl, RenV.eq (by rw [hvn]; exact v8_val vv x) (nameless_bV _)⟩, ⟨_, rfl, RenV.eq (intV_eq (by omega)) (nameless_sc _)⟩, trivial⟩, .nil⟩)))); (have hke : k = 8 := by omega); subst hke; (have hx8 : xs.take 8 = xs := List.take_of_length_le (by simp [hxs8]; omega))
          repeat' (first | with_reducible refine And.intro ?_ ?_ | ((with_reducible intro hc); (try simp only [zA, zB, zC, zD, zE, zF, zG, zH, zI, zJ, zK, zL, zM, zN, zO, zP, zQ, zR, zS, zT, zU, zV, zW] at hc); (first | (exact absurd rfl hc) | (exact absurd trivial hc) | (exfalso; omega) | skip)) | ((conv => whnf); first | with_reducible refine And.intro ?_ ?_ | refine ifB_intro ?_ ?_ | refine xA (by omega) ?_ | ((refine xB ?_); intro kw hk1 hk2) | refine xC (by omega) ?_ | refine xD ?_ | refine xE (by omega) ?_ | refine xF (by omega) ?_ | refine xG ?_ | refine xH ?_ | refine xI (by omega) ?_ | refine xJ (by omega) ?_ | (with_reducible refine stopA ?_) | refine Exists.intro _ (And.intro (by rfl) ?_) | refine GOp.via (by rfl) ?_ | (with_reducible first | refine stopO ?_ | refine stopE ?_ | refine stopD ?_ | refine stopW ?_ | refine stopG ?_ | refine stopC ?_ | refine stopR ?_)))
          all_goals (first | omega | skip)
          rw [hx8]
          exact Done'.mk ⟨([v8 xs], g + 1), ⟨by simp only; omega, by simp only; rw [← g2, hnext]; rfl, by simp at g3 ⊢; omega⟩, by simp only; omega, rfl, rfl, (by repeat' (first | exact trivial | refine And.intro rfl ?_)), [(5, 3)], _, rfl, ⟨⟨_, rfl, .sl (List.Mem.head _)⟩, ⟨_, rfl, RenV.eq (intV_eq (by simp only; omega)) (nameless_sc _)⟩, trivial⟩, .cons rfl rfl (.cells .nil) (.cons rfl rfl (.cells (.cons (RenV.eq rfl (nameless_bV _)) .nil)) .nil)⟩
        | cons o0 orr =>
          simp only [List.length_cons] at g3
          repeat' (first | with_reducible refine And.intro ?_ ?_ | ((with_reducible intro hc); (try simp only [zA, zB, zC, zD, zE, zF, zG, zH, zI, zJ, zK, zL, zM, zN, zO, zP, zQ, zR, zS, zT, zU, zV, zW] at hc); (first | (exact absurd rfl hc) | (exact absurd trivial hc) | (exfalso; omega) | skip)) | ((conv => whnf); first | with_reducible refine And.intro ?_ ?_ | refine ifB_intro ?_ ?_ | refine xA (by omega) ?_ | ((refine xB ?_); intro kw hk1 hk2) | refine xC (by omega) ?_ | refine xD ?_ | refine xE (by omega) ?_ | refine xF (by omega) ?_ | refine xG ?_ | refine xH ?_ | refine xI (by omega) ?_ | refine xJ (by omega) ?_ | (with_reducible refine stopA ?_) | refine Exists.intro _ (And.intro (by rfl) ?_) | refine GOp.via (by rfl) ?_ | (with_reducible first | refine stopO ?_ | refine stopE ?_ | refine stopD ?_ | refine stopW ?_ | refine stopG ?_ | refine stopC ?_ | refine stopR ?_)))
          all_goals (first | omega | skip)
          (refine GWP'.mk (GWP.loopA (α := Nat) [57, 58, 59, 60, 61, 62, 63, 64, 65, 66, 67, 68, 69] [] (fun k => k ≤ 8) (fun k => [(11, bV (v8 (xs.take k))), (12, iV k)]) (fun _ => []) 4 (fun k => 8 - k) 0 (Nat.zero_le _) ⟨rfl, rfl, (by repeat' (first | exact trivial | refine And.intro rfl ?_)), [], _, rfl, ⟨⟨_, rfl, RenV.eq rfl (nameless_bV _)⟩, ⟨_, rfl, .sc⟩, trivial⟩, .nil⟩ ?_)); rintro k hk; (refine Decidable.byCases (p := k < 8) (fun hk8 => ?_) (fun hk8 => ?_)); (focus (obtain ⟨x, hx, hxs⟩ := hat k hk8; (have hvn : v8 (xs.take (k + 1)) = 2 * v8 (xs.take k) + x := by { rw [take_next hxs, v8_next] }); (have hqk : 0 + (8 * (g : Int) + (k : Int)).toNat * 1 = 8 * g + k := by omega); generalize v8 (xs.take k) = vv at *; (repeat' (first | with_reducible refine And.intro ?_ ?_ | ((with_reducible intro hc); (try simp only [zA, zB, zC, zD, zE, zF, zG, zH, zI, zJ, zK, zL, zM, zN, zO, zP, zQ, zR, zS, zT, zU, zV, zW] at hc); (first | (exact absurd rfl hc) | (exact absurd trivial hc) | (exfalso; omega) | skip)) | ((conv => whnf); first | with_reducible refine And.intro ?_ ?_ | refine ifB_intro ?_ ?_ | refine xA (by omega) ?_ | ((refine xB ?_); intro kw hk1 hk2) | refine xC (by omega) ?_ | refine xD ?_ | refine xE (by omega) ?_ | refine xF (by omega) ?_ | refine xG ?_ | refine xH ?_ | refine xI (by omega) ?_ | refine xJ (by omega) ?_ | (with_reducible refine stopA ?_) | refine Exists.intro _ (And.intro (by first | exact vat_of vagg_u8 (map_at hx) hqk | rfl) ?_) | refine GOp.via (by rfl) ?_ | (with_reducible first | refine stopO ?_ | refine stopE ?_ | refine stopD ?_ | refine stopW ?_ | refine stopG ?_ | refine stopC ?_ | refine stopR ?_)))); (all_goals (first | omega | skip)); (all_goals (exact Done'.mk ⟨k + 1, by omega, by omega, rfl, rfl, (by repeat' (first | exact trivial | refine And.intro rfl ?_)), [], _, rfl, ⟨⟨_, rfl, RenV.eq (by rw [hvn]; exact v8_val vv x) (nameless_bV _)⟩, ⟨_, rfl, RenV.eq (intV_eq (by omega)) (nameless_sc _)⟩, trivial⟩, .nil⟩)))); (have hke : k = 8 := by omega); subst hke; (have hx8 : xs.take 8 = xs := List.take_of_length_le (by simp [hxs8]; omega))
          repeat' (first | with_reducible refine And.intro ?_ ?_ | ((with_reducible intro hc); (try simp only [zA, zB, zC, zD, zE, zF, zG, zH, zI, zJ, zK, zL, zM, zN, zO, zP, zQ, zR, zS, zT, zU, zV, zW] at hc); (first | (exact absurd rfl hc) | (exact absurd trivial hc) | (exfalso; omega) | skip)) | ((conv => whnf); first | with_reducible refine And.intro ?_ ?_ | refine ifB_intro ?_ ?_ | refine xA (by omega) ?_ | ((refine xB ?_); intro kw hk1 hk2) | refine xC (by omega) ?_ | refine xD ?_ | refine xE (by omega) ?_ | refine xF (by omega) ?_ | refine xG ?_ | refine xH ?_ | refine xI (by omega) ?_ | refine xJ (by omega) ?_ | (with_reducible refine stopA ?_) | refine Exists.intro _ (And.intro (by rfl) ?_) | refine GOp.via (by rfl) ?_ | (with_reducible first | refine stopO ?_ | refine stopE ?_ | refine stopD ?_ | refine stopW ?_ | refine stopG ?_ | refine stopC ?_ | refine stopR ?_)))
          all_goals (first | omega | skip)
          rw [hx8]
          apply GOp'.via
          case h => exact vop_append rfl (vapp_grow sty_b (d := .slice 5) Tryd.underlying22 (by intro k h; cases h) (b := 3) (n := orr.length + 1) (m := 1) (l := [bV (v8 xs)]) (vs := bV o0 :: orr.map bV) (by rfl) (by rfl) (by omega) (by rfl) (by simp) (by omega) (by omega))
          repeat' (first | with_reducible refine And.intro ?_ ?_ | ((with_reducible intro hc); (try simp only [zA, zB, zC, zD, zE, zF, zG, zH, zI, zJ, zK, zL, zM, zN, zO, zP, zQ, zR, zS, zT, zU, zV, zW] at hc); (first | (exact absurd rfl hc) | (exact absurd trivial hc) | (exfalso; omega) | skip)) | ((conv => whnf); first | with_reducible refine And.intro ?_ ?_ | refine ifB_intro ?_ ?_ | refine xA (by omega) ?_ | ((refine xB ?_); intro kw hk1 hk2) | refine xC (by omega) ?_ | refine xD ?_ | refine xE (by omega) ?_ | refine xF (by omega) ?_ | refine xG ?_ | refine xH ?_ | refine xI (by omega) ?_ | refine xJ (by omega) ?_ | (with_reducible refine stopA ?_) | refine Exists.intro _ (And.intro (by rfl) ?_) | refine GOp.via (by rfl) ?_ | (with_reducible first | refine stopO ?_ | refine stopE ?_ | refine stopD ?_ | refine stopW ?_ | refine stopG ?_ | refine stopC ?_ | refine stopR ?_)))
          all_goals (first | omega | skip)
          exact Done'.mk ⟨(o0 :: (orr ++ [v8 xs]), g + 1), ⟨by simp only; omega, by simp only; rw [← g2, hnext]; simp, by simp only [List.length_cons, List.length_append, List.length_nil]; omega⟩, by simp only; omega, rfl, rfl, (by repeat' (first | exact trivial | refine And.intro rfl ?_)), [(5, 3)], _, rfl, ⟨⟨_, rfl, .slE (List.Mem.head _) (by simp)⟩, ⟨_, rfl, RenV.eq (intV_eq (by simp only; omega)) (nameless_sc _)⟩, trivial⟩, .cons rfl rfl (.cells .nil) (.cons rfl rfl (.cells (RenL.eq (grow_by o0 orr (v8 xs) rfl) (bytes_nameless _ _))) .nil)⟩
      · have hout : bytes8 (b0 :: br) = out := by rw [← g2, bytes8_short (by simp; omega), List.append_nil]
        rw [hout]
        have hol : out.length ≤ 1000 := by
          simp at h3
          omega
        clear g2 hout
        cases out with
        | nil =>
          repeat' (first | with_reducible refine And.intro ?_ ?_ | ((with_reducible intro hc); (try simp only [zA, zB, zC, zD, zE, zF, zG, zH, zI, zJ, zK, zL, zM, zN, zO, zP, zQ, zR, zS, zT, zU, zV, zW] at hc); (first | (exact absurd rfl hc) | (exact absurd trivial hc) | (exfalso; omega) | skip)) | ((conv => whnf); first | with_reducible refine And.intro ?_ ?_ | refine ifB_intro ?_ ?_ | refine xA (by omega) ?_ | ((refine xB ?_); intro kw hk1 hk2) | refine xC (by omega) ?_ | refine xD ?_ | refine xE (by omega) ?_ | refine xF (by omega) ?_ | refine xG ?_ | refine xH ?_ | refine xI (by omega) ?_ | refine xJ (by omega) ?_ | (with_reducible refine stopA ?_) | refine Exists.intro _ (And.intro (by rfl) ?_) | refine GOp.via (by rfl) ?_ | (with_reducible first | refine stopO ?_ | refine stopE ?_ | refine stopD ?_ | refine stopW ?_ | refine stopG ?_ | refine stopC ?_ | refine stopR ?_)))
          all_goals (first | omega | skip)
          refine GCall'.mk ((rwriteV_call (d := []) (view_by (b := 2) rfl rfl rfl) (by simp)).mono ?_)
          rintro _ _ ⟨rfl, rfl⟩
          repeat' (first | with_reducible refine And.intro ?_ ?_ | ((with_reducible intro hc); (try simp only [zA, zB, zC, zD, zE, zF, zG, zH, zI, zJ, zK, zL, zM, zN, zO, zP, zQ, zR, zS, zT, zU, zV, zW] at hc); (first | (exact absurd rfl hc) | (exact absurd trivial hc) | (exfalso; omega) | skip)) | ((conv => whnf); first | with_reducible refine And.intro ?_ ?_ | refine ifB_intro ?_ ?_ | refine xA (by omega) ?_ | ((refine xB ?_); intro kw hk1 hk2) | refine xC (by omega) ?_ | refine xD ?_ | refine xE (by omega) ?_ | refine xF (by omega) ?_ | refine xG ?_ | refine xH ?_ | refine xI (by omega) ?_ | refine xJ (by omega) ?_ | (with_reducible refine stopA ?_) | refine Exists.intro _ (And.intro (by rfl) ?_) | refine GOp.via (by rfl) ?_ | (with_reducible first | refine stopO ?_ | refine stopE ?_ | refine stopD ?_ | refine stopW ?_ | refine stopG ?_ | refine stopC ?_ | refine stopR ?_)))
          all_goals (first | omega | skip)
          (all_goals (refine Done'.mk ?_; show Frz _ _ (if b64 ([] : List UInt8) = t then .tp [roB ([] : List UInt8), booV true] else .tp [.ro 0 [], booV false]); first | (rw [if_neg hc]; exact Frz.tp (.cons Frz.nil0 (.cons (Frz.of (nameless_sc _)) .nil))) | (rw [if_pos hc]; exact Frz.tp (.cons (frz_by (d := []) rfl rfl rfl) (.cons (Frz.of (nameless_sc _)) .nil)))))
        | cons o0 orr =>
          repeat' (first | with_reducible refine And.intro ?_ ?_ | ((with_reducible intro hc); (try simp only [zA, zB, zC, zD, zE, zF, zG, zH, zI, zJ, zK, zL, zM, zN, zO, zP, zQ, zR, zS, zT, zU, zV, zW] at hc); (first | (exact absurd rfl hc) | (exact absurd trivial hc) | (exfalso; omega) | skip)) | ((conv => whnf); first | with_reducible refine And.intro ?_ ?_ | refine ifB_intro ?_ ?_ | refine xA (by omega) ?_ | ((refine xB ?_); intro kw hk1 hk2) | refine xC (by omega) ?_ | refine xD ?_ | refine xE (by omega) ?_ | refine xF (by omega) ?_ | refine xG ?_ | refine xH ?_ | refine xI (by omega) ?_ | refine xJ (by omega) ?_ | (with_reducible refine stopA ?_) | refine Exists.intro _ (And.intro (by rfl) ?_) | refine GOp.via (by rfl) ?_ | (with_reducible first | refine stopO ?_ | refine stopE ?_ | refine stopD ?_ | refine stopW ?_ | refine stopG ?_ | refine stopC ?_ | refine stopR ?_)))
          all_goals (first | omega | skip)
          refine GCall'.mk ((rwriteV_call (d := o0 :: orr) (view_by (b := 3) rfl rfl rfl) hol).mono ?_)
          rintro _ _ ⟨rfl, rfl⟩
          repeat' (first | with_reducible refine And.intro ?_ ?_ | ((with_reducible intro hc); (try simp only [zA, zB, zC, zD, zE, zF, zG, zH, zI, zJ, zK, zL, zM, zN, zO, zP, zQ, zR, zS, zT, zU, zV, zW] at hc); (first | (exact absurd rfl hc) | (exact absurd trivial hc) | (exfalso; omega) | skip)) | ((conv => whnf); first | with_reducible refine And.intro ?_ ?_ | refine ifB_intro ?_ ?_ | refine xA (by omega) ?_ | ((refine xB ?_); intro kw hk1 hk2) | refine xC (by omega) ?_ | refine xD ?_ | refine xE (by omega) ?_ | refine xF (by omega) ?_ | refine xG ?_ | refine xH ?_ | refine xI (by omega) ?_ | refine xJ (by omega) ?_ | (with_reducible refine stopA ?_) | refine Exists.intro _ (And.intro (by rfl) ?_) | refine GOp.via (by rfl) ?_ | (with_reducible first | refine stopO ?_ | refine stopE ?_ | refine stopD ?_ | refine stopW ?_ | refine stopG ?_ | refine stopC ?_ | refine stopR ?_)))
          all_goals (first | omega | skip)
          (all_goals (refine Done'.mk ?_; show Frz _ _ (if b64 (o0 :: orr) = t then .tp [roB (o0 :: orr), booV true] else .tp [.ro 0 [], booV false]); first | (rw [if_neg hc]; exact Frz.tp (.cons Frz.nil0 (.cons (Frz.of (nameless_sc _)) .nil))) | (rw [if_pos hc]; exact Frz.tp (.cons (frz_by (d := (o0 :: orr)) rfl rfl rfl) (.cons (Frz.of (nameless_sc _)) .nil)))))
end Go.Proofs.YtmmjgbdihgdekaaDoor
