/- Bytes, wraps, and the steps of a walk over symbolic values. Over any program. -/
import Derived.Test.YtbnemkdkeaiaoaaV2
namespace Go.Proofs.Ytbnemkdkeaiaoaa
open Go Go.RowKit
set_option linter.unusedSimpArgs false
set_option linter.unusedVariables false

def bV (b : UInt8) : VV := .sc (.int .u8 b.toNat)
/-- Bytes that nobody writes. -/
def roB (l : List UInt8) : VV := .ro l.length (l.map bV)
def iV (n : Int) : VV := .sc (.int .i64 n)
def strV (l : List UInt8) : VV := .sc (.string ⟨l.toArray⟩)
def booV (b : Bool) : VV := .sc (.bool b)
theorem wrap_i64 (x : Int) : ∃ k : Int, IntKind.i64.wrap x = x + 18446744073709551616 * k ∧ -9223372036854775808 ≤ IntKind.i64.wrap x ∧ IntKind.i64.wrap x < 9223372036854775808 := by
  have e : IntKind.i64.wrap x = if x % 18446744073709551616 ≥ 9223372036854775808 then x % 18446744073709551616 - 18446744073709551616 else x % 18446744073709551616 := by
    simp [IntKind.wrap, IntKind.bits, IntKind.signed]
  rw [e]
  split
  · exact ⟨-(x / 18446744073709551616) - 1, by omega, by omega, by omega⟩
  · exact ⟨-(x / 18446744073709551616), by omega, by omega, by omega⟩
theorem wrap_i64_id {x : Int} (h : -9223372036854775808 ≤ x) (h2 : x < 9223372036854775808) : IntKind.i64.wrap x = x := by
  obtain ⟨k, e, h3, h4⟩ := wrap_i64 x
  omega
theorem wrap_u8 (x : Int) : IntKind.u8.wrap x = x % 256 := by
  simp [IntKind.wrap, IntKind.bits, IntKind.signed]
theorem GAr.i64 {x : Int} {K : Int → Prop} (h : -9223372036854775808 ≤ x ∧ x < 9223372036854775808) (k : K x) : GAr .i64 x K := ⟨by rw [wrap_i64_id h.1 h.2]; exact k⟩
theorem GAr.u8s {x : Int} {K : Int → Prop} (h : 0 ≤ x ∧ x < 256) (k : K x) : GAr .u8 x K := ⟨by rw [wrap_u8, Int.emod_eq_of_lt h.1 h.2]; exact k⟩
theorem GAr.u8 {x : Int} {K : Int → Prop} (k : K (x % 256)) : GAr .u8 x K := ⟨by rw [wrap_u8]; exact k⟩
theorem wrap_u64 (x : Int) : IntKind.u64.wrap x = x % 18446744073709551616 := by
  simp [IntKind.wrap, IntKind.bits, IntKind.signed]
theorem wrap_u32 (x : Int) : IntKind.u32.wrap x = x % 4294967296 := by
  simp [IntKind.wrap, IntKind.bits, IntKind.signed]
theorem GAr.u64s {x : Int} {K : Int → Prop} (h : 0 ≤ x ∧ x < 18446744073709551616) (k : K x) : GAr .u64 x K := ⟨by rw [wrap_u64, Int.emod_eq_of_lt h.1 h.2]; exact k⟩
theorem GAr.u64 {x : Int} {K : Int → Prop} (k : K (x % 18446744073709551616)) : GAr .u64 x K := ⟨by rw [wrap_u64]; exact k⟩
theorem GAr.u32s {x : Int} {K : Int → Prop} (h : 0 ≤ x ∧ x < 4294967296) (k : K x) : GAr .u32 x K := ⟨by rw [wrap_u32, Int.emod_eq_of_lt h.1 h.2]; exact k⟩
theorem GAr.u32 {x : Int} {K : Int → Prop} (k : K (x % 4294967296)) : GAr .u32 x K := ⟨by rw [wrap_u32]; exact k⟩
theorem GAr.i64w {x : Int} {K : Int → Prop} (h : ∀ k : Int, -9223372036854775808 ≤ x + 18446744073709551616 * k → x + 18446744073709551616 * k < 9223372036854775808 → K (x + 18446744073709551616 * k)) : GAr .i64 x K := ⟨by
  obtain ⟨k, e, h1, h2⟩ := wrap_i64 x
  rw [e] at h1 h2 ⊢
  exact h k h1 h2⟩
theorem GAr.wrap {kd : IntKind} {x : Int} {K : Int → Prop} (k : K (kd.wrap x)) : GAr kd x K := ⟨k⟩
theorem GQuo.i64 {a b : Int} {K : Int → Prop} (h : 0 ≤ a ∧ 0 < b ∧ a < 9223372036854775808) (k : K (a / b)) : GQuo .i64 a b K := ⟨by
  rw [Int.tdiv_eq_ediv_of_nonneg h.1, wrap_i64_id]
  · exact k
  · have := Int.ediv_nonneg h.1 (Int.le_of_lt h.2.1); omega
  · have := Int.ediv_le_self b h.1; omega⟩
theorem GRem.pos {a b : Int} {K : Int → Prop} (h : 0 ≤ a) (k : K (a % b)) : GRem a b K := ⟨by rw [Int.tmod_eq_emod_of_nonneg h]; exact k⟩
structure GAr' (k : IntKind) (x : Int) (K : Int → Prop) : Prop where
  out : GAr k x K
theorem stopA {kd : IntKind} {x : Int} {K : Int → Prop} (h : GAr' kd x K) : GAr kd x K := h.out
theorem map_at {l : List UInt8} {i : Nat} {b : UInt8} (h : l[i]? = some b) : (l.map bV)[i]? = some (bV b) := by
  rw [List.getElem?_map, h]; rfl
theorem vat_of {P : Program} {t : TypeId} (ht : vagg P t = some false) {vs : List VV} {i q : Nat} {v : VV} (h : vs[i]? = some v) (hq : q = i) : vat P t vs q = some v := by
  subst hq
  simp only [vat, ht, h]
theorem vbytes_map (l : List UInt8) : vbytes (l.map bV) = some l := by
  induction l with
  | nil => rfl
  | cons b r ih => simp [List.map_cons, bV, vbytes] at ih ⊢; rw [ih]
/-- Ways that meet: what must hold from there on is shown once. -/
theorem joins {P : Program} {r : Option Nat} {c : Code} {Q : Exit → VSt → Prop} {G : Prop} (K : VSt → Prop) (hl : ∀ s, K s → GWP P r c Q s) (hm : (∀ s, K s → GWP P r c Q s) → G) : G := hm hl
theorem str_size (l : List UInt8) : (⟨l.toArray⟩ : ByteArray).size = l.length := rfl
theorem str_list (l : List UInt8) : (⟨l.toArray⟩ : ByteArray).data.toList = l := rfl
theorem str_nil : (⟨#[]⟩ : ByteArray).data.toList = [] := rfl
/- Short names: the macros' simp lemmas (mac.tpl): a claim's size is bounded. -/
theorem zA (a b : Int) : leZ a b = decide (a ≤ b) := leZ_eq a b
theorem zB (a b : Int) : ltZ a b = decide (a < b) := ltZ_eq a b
theorem zC (a b : Int) : eqZ a b = decide (a = b) := eqZ_eq a b
theorem zD (l : List UInt8) : (⟨l.toArray⟩ : ByteArray).size = l.length := rfl
theorem zE (l : List UInt8) : (⟨l.toArray⟩ : ByteArray).data.toList = l := rfl
theorem zF : (⟨#[]⟩ : ByteArray).data.toList = [] := rfl
theorem zG.{u} {α : Type u} (l : List α) : l.toArray.toList = l := rfl
theorem zH {p : Prop} [Decidable p] : (decide p = true) = p := decide_eq_true_eq
theorem zI {p : Prop} {_ : Decidable p} : decide p = false ↔ ¬p := decide_eq_false_iff_not
theorem zJ.{u} {α : Type u} [BEq α] [LawfulBEq α] {a b : α} : (a == b) = true ↔ a = b := beq_iff_eq
theorem zK.{u} {α : Type u} [BEq α] [LawfulBEq α] {a b : α} : (a != b) = true ↔ a ≠ b := bne_iff_ne
theorem zL.{u} {α : Type u} [BEq α] [LawfulBEq α] {a b : α} : (a == b) = false ↔ a ≠ b := beq_eq_false_iff_ne
theorem zM.{u} {α : Type u} [BEq α] [LawfulBEq α] {a b : α} : (a != b) = false ↔ a = b := bne_eq_false_iff_eq
theorem zN.{u} {α : Sort u} (a b : α) : (a ≠ b) = ¬(a = b) := rfl
theorem zO {b : Bool} : ((!b) = true) = (b = false) := Bool.not_eq_true' b
theorem zP {b : Bool} : ((!b) = false) = (b = true) := Bool.not_eq_false' b
theorem zQ : (!true) = false := rfl
theorem zR : (!false) = true := rfl
theorem zS.{u} {α : Type u} [LT α] {a b : α} : a > b ↔ b < a := Iff.rfl
theorem zT.{u} {α : Type u} [LE α] {a b : α} : a ≥ b ↔ b ≤ a := Iff.rfl
theorem zU {a b : Int} : ¬a < b ↔ b ≤ a := Int.not_lt
theorem zV {a b : Int} : ¬a ≤ b ↔ b < a := Int.not_le
theorem zW {p : Prop} [Decidable p] : ¬¬p ↔ p := Decidable.not_not
theorem xA {x : Int} {K : Int → Prop} (h : -9223372036854775808 ≤ x ∧ x < 9223372036854775808) (k : K x) : GAr .i64 x K := GAr.i64 h k
theorem xB {x : Int} {K : Int → Prop} (h : ∀ k : Int, -9223372036854775808 ≤ x + 18446744073709551616 * k → x + 18446744073709551616 * k < 9223372036854775808 → K (x + 18446744073709551616 * k)) : GAr .i64 x K := GAr.i64w h
theorem xC {x : Int} {K : Int → Prop} (h : 0 ≤ x ∧ x < 256) (k : K x) : GAr .u8 x K := GAr.u8s h k
theorem xD {x : Int} {K : Int → Prop} (k : K (x % 256)) : GAr .u8 x K := GAr.u8 k
theorem xE {x : Int} {K : Int → Prop} (h : 0 ≤ x ∧ x < 18446744073709551616) (k : K x) : GAr .u64 x K := GAr.u64s h k
theorem xF {x : Int} {K : Int → Prop} (h : 0 ≤ x ∧ x < 4294967296) (k : K x) : GAr .u32 x K := GAr.u32s h k
theorem xG {x : Int} {K : Int → Prop} (k : K (x % 18446744073709551616)) : GAr .u64 x K := GAr.u64 k
theorem xH {x : Int} {K : Int → Prop} (k : K (x % 4294967296)) : GAr .u32 x K := GAr.u32 k
theorem xI {a b : Int} {K : Int → Prop} (h : 0 ≤ a ∧ 0 < b ∧ a < 9223372036854775808) (k : K (a / b)) : GQuo .i64 a b K := GQuo.i64 h k
theorem xJ {a b : Int} {K : Int → Prop} (h : 0 ≤ a) (k : K (a % b)) : GRem a b K := GRem.pos h k
theorem iv_eq {x y : Int} (h : x = y) : some (VV.sc (.int .i64 x)) = some (iV y) := by subst h; rfl
structure Done' (p : Prop) : Prop where
  out : p
structure GWP' (P : Program) (r : Option Nat) (c : Code) (Q : Exit → VSt → Prop) (s : VSt) : Prop where
  out : GWP P r c Q s
structure GCall' (P : Program) (f : FuncId) (args : List VV) (H : Heap) (Q : VV → Heap → Prop) : Prop where
  out : VCall P f args H Q
structure GRound' (P : Program) (l : Nat) (args : List VV) (H : Heap) (Q : VV → Heap → Prop) : Prop where
  out : VRound P l args H Q
structure GOp' (P : Program) (o : Oper) (ts : List VV) (H : Heap) (K : VV → Heap → Prop) : Prop where
  out : GOp P o ts H K
theorem stopO {P : Program} {o : Oper} {ts : List VV} {H : Heap} {K : VV → Heap → Prop} (h : GOp' P o ts H K) : GOp P o ts H K := h.out
theorem GOp'.via {P : Program} {o : Oper} {ts : List VV} {H H' : Heap} {v : VV} {K : VV → Heap → Prop} (h : vop P o ts H = some (v, H')) (k : K v H') : GOp' P o ts H K := ⟨.via h k⟩
structure GExt' (P : Program) (g : FuncId) (args : List VV) (H : Heap) (K : VV → Heap → Prop) : Prop where
  out : GExt P g args H K
theorem stopE {P : Program} {g : FuncId} {args : List VV} {H : Heap} {K : VV → Heap → Prop} (h : GExt' P g args H K) : GExt P g args H K := h.out
theorem GExt'.via {P : Program} {g : FuncId} {args : List VV} {H : Heap} {v : VV} {K : VV → Heap → Prop} (h : vextern P g args H = some v) (k : K v H) : GExt' P g args H K := ⟨.via h k⟩
theorem stopD {p : Prop} (h : Done' p) : Done p := ⟨h.out⟩
theorem stopW {P : Program} {r : Option Nat} {c : Code} {Q : Exit → VSt → Prop} {s : VSt} (h : GWP' P r c Q s) : GWP P r c Q s := h.out
theorem stopC {P : Program} {f : FuncId} {args : List VV} {H : Heap} {Q : VV → Heap → Prop} (h : GCall' P f args H Q) : GCall P f args H Q := ⟨h.out⟩
theorem stopR {P : Program} {f : Nat} {args : List VV} {H : Heap} {Q : VV → Heap → Prop} (h : GRound' P f args H Q) : GRound P f args H Q := ⟨h.out⟩
theorem mul1 {a i z : Nat} (hz : z = 1) (h : a = i) : a * z = i := by subst hz h; exact Nat.mul_one _
theorem u8_lt (b : UInt8) : b.toNat < 256 := by have := b.toNat_lt; omega
end Go.Proofs.Ytbnemkdkeaiaoaa
