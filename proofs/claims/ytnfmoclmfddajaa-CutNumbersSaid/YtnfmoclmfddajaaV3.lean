/- Bytes, wraps, and the steps of a walk over symbolic values. Over any program. -/
import Derived.Test.YtnfmoclmfddajaaV2
namespace Go.Proofs.Ytnfmoclmfddajaa
open Go Go.RowKit
set_option linter.unusedSimpArgs false
set_option linter.unusedVariables false

def bV (b : UInt8) : VV := .sc (.int .u8 b.toNat)
/-- Bytes that nobody writes. -/
def roB (l : List UInt8) : VV := .ro l.length (l.map bV)
def iV (n : Int) : VV := .sc (.int .i64 n)
def strV (l : List UInt8) : VV := .sc (.string ⟨l.toArray⟩)
def booV (b : Bool) : VV := .sc (.bool b)
theorem wrap_i64 (x : Int) : ∃ k : Int, IntKind.i64.wrap x = x + 18446744073709551616 * k ∧ -9223372036854775808 ≤ IntKind.i64.wrap x ∧ IntKind.i64.wrap x < 9223372036854775808 := by
  have e : IntKind.i64.wrap x = if x % 18446744073709551616 ≥ 9223372036854775808 then x % 18446744073709551616 - 18446744073709551616 else x % 18446744073709551616 := by
    simp [IntKind.wrap, IntKind.bits, IntKind.signed]
  rw [e]
  split
  · exact ⟨-(x / 18446744073709551616) - 1, by omega, by omega, by omega⟩
  · exact ⟨-(x / 18446744073709551616), by omega, by omega, by omega⟩
theorem wrap_i64_id {x : Int} (h : -9223372036854775808 ≤ x) (h2 : x < 9223372036854775808) : IntKind.i64.wrap x = x := by
  obtain ⟨k, e, h3, h4⟩ := wrap_i64 x
  omega
theorem wrap_u8 (x : Int) : IntKind.u8.wrap x = x % 256 := by
  simp [IntKind.wrap, IntKind.bits, IntKind.signed]
theorem map_at {l : List UInt8} {i : Nat} {b : UInt8} (h : l[i]? = some b) : (l.map bV)[i]? = some (bV b) := by
  rw [List.getElem?_map, h]; rfl
theorem vat_of {P : Program} {t : TypeId} (ht : vagg P t = some false) {vs : List VV} {i q : Nat} {v : VV} (h : vs[i]? = some v) (hq : q = i) : vat P t vs q = some v := by
  subst hq
  simp only [vat, ht, h]
theorem vbytes_map (l : List UInt8) : vbytes (l.map bV) = some l := by
  induction l with
  | nil => rfl
  | cons b r ih => simp [List.map_cons, bV, vbytes] at ih ⊢; rw [ih]
/-- Ways that meet: what must hold from there on is shown once. -/
theorem joins {P : Program} {r : Option Nat} {c : Code} {Q : Exit → VSt → Prop} {G : Prop} (K : VSt → Prop) (hl : ∀ s, K s → GWP P r c Q s) (hm : (∀ s, K s → GWP P r c Q s) → G) : G := hm hl
theorem str_size (l : List UInt8) : (⟨l.toArray⟩ : ByteArray).size = l.length := rfl
theorem str_list (l : List UInt8) : (⟨l.toArray⟩ : ByteArray).toList = l := ByteArray.toList_eq _
theorem str_nil : (⟨#[]⟩ : ByteArray).toList = [] := ByteArray.toList_eq _
theorem iv_eq {x y : Int} (h : x = y) : some (VV.sc (.int .i64 x)) = some (iV y) := by subst h; rfl
structure Done' (p : Prop) : Prop where
  out : p
structure GWP' (P : Program) (r : Option Nat) (c : Code) (Q : Exit → VSt → Prop) (s : VSt) : Prop where
  out : GWP P r c Q s
structure GCall' (P : Program) (f : FuncId) (args : List VV) (H : Heap) (Q : VV → Heap → Prop) : Prop where
  out : VCall P f args H Q
structure GRound' (P : Program) (l : Nat) (args : List VV) (H : Heap) (Q : VV → Heap → Prop) : Prop where
  out : VRound P l args H Q
theorem stopD {p : Prop} (h : Done' p) : Done p := ⟨h.out⟩
theorem stopW {P : Program} {r : Option Nat} {c : Code} {Q : Exit → VSt → Prop} {s : VSt} (h : GWP' P r c Q s) : GWP P r c Q s := h.out
theorem stopC {P : Program} {f : FuncId} {args : List VV} {H : Heap} {Q : VV → Heap → Prop} (h : GCall' P f args H Q) : GCall P f args H Q := ⟨h.out⟩
theorem stopR {P : Program} {f : Nat} {args : List VV} {H : Heap} {Q : VV → Heap → Prop} (h : GRound' P f args H Q) : GRound P f args H Q := ⟨h.out⟩
theorem mul1 {a i z : Nat} (hz : z = 1) (h : a = i) : a * z = i := by subst hz h; exact Nat.mul_one _
theorem u8_lt (b : UInt8) : b.toNat < 256 := by have := b.toNat_lt; omega
end Go.Proofs.Ytnfmoclmfddajaa
