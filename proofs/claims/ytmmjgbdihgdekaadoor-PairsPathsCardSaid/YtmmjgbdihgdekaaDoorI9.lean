import Derived.Shelf.Strings.Search1
import Derived.Shelf.Strings.Search2
import Derived.Shelf.Strings.Search3
import Derived.Shelf.Strings.Cut
import Derived.Shelf.Strings.Count
import Derived.Shelf.Sort.Plain
import Derived.Shelf.Strings.Prefix
import Derived.Shelf.Small.Wraps
import Derived.Shelf.Strings.Split
import Derived.Shelf.Slices.CompactS
import Derived.Shelf.Slices.In.SortNone
import Derived.Test.YtmmjgbdihgdekaaDoorProg
import Derived.Test.YtmmjgbdihgdekaaDoorH5
import Derived.Lib.SlicesCompact
import Derived.Sort.EncStr
import Derived.Test.YtmmjgbdihgdekaaDoorH6
import Derived.Lib.RowBridge
import Derived.Sort.Grow
/-
  DERIVED: THE SHELF's CONTRACTS AT THIS DUMP, IN PLAIN WORDS (tools/lay-plain.mjs out of 'TrydShelf.lean', which tools/lay-shelf.mjs wrote): THE SAME DECLARATIONS UNDER THE SAME NAMES: 'import', 'namespace', 'open', 'def', 'theorem' AND NOTHING ELSE: no command of the shelf's: FOR A HAND-IN. Each laying: the table of numbers ('.._ren') and one theorem, a field a fact of the dump's own or the kernel's comparison; each contract: ONE APPLICATION.
-/
namespace Go.Proofs
open Go.Shelf
def Tryd.lays104_ren : Go.Shelf.Ren := ⟨fun | 104 => 79 | 211 => 122 | 207 => 156 | n => n, fun | 9 => 9 | 4 => 4 | 24 => 69 | 3 => 3 | n => n, fun | n => n⟩
theorem Tryd.lays104 : Go.Proofs.Lays.n104 Tryd.prog Tryd.lays104_ren := {
  mixed := by kernel_rfl
  f104 := Tryd.func79.trans (congrArg some (by kernel_rfl))
  f207 := Tryd.func156.trans (congrArg some (by kernel_rfl))
  f211 := Tryd.func122.trans (congrArg some (by kernel_rfl))
  t3 := Tryd.underlying3
  a3 := Tryd.isAgg3
  z3 := Tryd.sizeOf3
  v3 := Tryd.zeroValue3
  t4 := Tryd.underlying4
  a4 := Tryd.isAgg4
  z4 := Tryd.sizeOf4
  v4 := Tryd.zeroValue4
  t9 := Tryd.underlying9
  a9 := Tryd.isAgg9
  z9 := Tryd.sizeOf9
  v9 := Tryd.zeroValue9
  t24 := Tryd.underlying69
  a24 := Tryd.isAgg69
  z24 := Tryd.sizeOf69
  v24 := Tryd.zeroValue69 }
open Go.RowKit in
/-- strings.CutSuffix: "CutSuffix returns s without the provided ending suffix string and reports whether it found the suffix. If s doesn't end with suffix, CutSuffix returns s, false. If suffix is the empty string, CutSuffix returns s, true.": IT RETURNS '(Lib.trimSuffix s p, Lib.hasSuffix s p)'; the world is as it was. (LAID: no walk: one application.) -/
theorem Tryd.strings_CutSuffix (s p : ByteArray) (w : World) (hs : s.size ≤ 9223372036854775807) :
    Calls Tryd.prog 79 #[.string s, .string p] w fun e w' => e = .returned (.tuple #[.string ⟨(Lib.trimSuffix s.data.toList p.data.toList).toArray⟩, .bool (Lib.hasSuffix s.data.toList p.data.toList)]) ∧ w' = w := Any.strings_CutSuffix Tryd.lays104 s p w hs
def Tryd.lays145_ren : Go.Shelf.Ren := ⟨fun | 145 => 78 | 220 => 121 | 219 => 155 | 217 => 186 | 225 => 187 | 224 => 182 | 267 => 188 | 266 => 206 | 314 => 211 | n => n, fun | 9 => 9 | 4 => 4 | 59 => 129 | 3 => 3 | 5 => 5 | 46 => 88 | 146 => 222 | 51 => 109 | n => n, fun | 1 => 0 | n => n⟩
theorem Tryd.lays145 : Go.Proofs.Lays.n145 Tryd.prog Tryd.lays145_ren := {
  mixed := by kernel_rfl
  f145 := Tryd.func78.trans (congrArg some (by kernel_rfl))
  f217 := Tryd.func186.trans (congrArg some (by kernel_rfl))
  f219 := Tryd.func155.trans (congrArg some (by kernel_rfl))
  f220 := Tryd.func121.trans (congrArg some (by kernel_rfl))
  f224 := Tryd.func182.trans (congrArg some (by kernel_rfl))
  f225 := Tryd.func187.trans (congrArg some (by kernel_rfl))
  f266 := Tryd.func206.trans (congrArg some (by kernel_rfl))
  f267 := Tryd.func188.trans (congrArg some (by kernel_rfl))
  f314 := Tryd.func211.trans (congrArg some (by kernel_rfl))
  t3 := Tryd.underlying3
  a3 := Tryd.isAgg3
  z3 := Tryd.sizeOf3
  v3 := Tryd.zeroValue3
  t4 := Tryd.underlying4
  a4 := Tryd.isAgg4
  z4 := Tryd.sizeOf4
  v4 := Tryd.zeroValue4
  t5 := Tryd.underlying5
  a5 := Tryd.isAgg5
  z5 := Tryd.sizeOf5
  v5 := Tryd.zeroValue5
  t9 := Tryd.underlying9
  a9 := Tryd.isAgg9
  z9 := Tryd.sizeOf9
  v9 := Tryd.zeroValue9
  t46 := Tryd.underlying88
  a46 := Tryd.isAgg88
  z46 := Tryd.sizeOf88
  v46 := Tryd.zeroValue88
  t51 := Tryd.underlying109
  a51 := Tryd.isAgg109
  z51 := Tryd.sizeOf109
  v51 := Tryd.zeroValue109
  t59 := Tryd.underlying129
  a59 := Tryd.isAgg129
  z59 := Tryd.sizeOf129
  v59 := Tryd.zeroValue129
  t146 := Tryd.underlying222
  a146 := Tryd.isAgg222
  z146 := Tryd.sizeOf222
  v146 := Tryd.zeroValue222
  g1 := by kernel_rfl }
open Go.RowKit Go.Lib in
/-- strings.Cut: "Cut slices s around the first instance of sep, returning the text before and after sep. The found result reports whether sep appears in s. If sep does not appear in s, cut returns s, "", false.": IT RETURNS 'Lib.cut s sep'; the world is as it was but for the count of draws. (LAID: no walk: one application.) -/
theorem Tryd.strings_Cut (s sep : ByteArray) (m : Int) (w : World) (hs : s.size < 4294967281) (hm : w.cell? ⟨0, 0, none⟩ = some (.int .i64 m)) :
    Calls Tryd.prog 78 #[.string s, .string sep] w fun e w' => e = .returned (.tuple #[.string ⟨(Lib.cut s.data.toList sep.data.toList).1.toArray⟩, .string ⟨(Lib.cut s.data.toList sep.data.toList).2.1.toArray⟩, .bool (Lib.cut s.data.toList sep.data.toList).2.2]) ∧ ∃ n, w' = w.drewN n := Any.strings_Cut Tryd.lays145 s sep m w hs hm
def Tryd.lays146_ren : Go.Shelf.Ren := ⟨fun | 146 => 81 | 221 => 124 | 268 => 158 | 138 => 159 | 143 => 160 | 195 => 189 | 197 => 190 | 218 => 191 | 219 => 155 | 260 => 212 | 217 => 186 | 225 => 187 | 224 => 182 | 267 => 188 | 266 => 206 | 314 => 211 | n => n, fun | 9 => 9 | 31 => 57 | 3 => 3 | 4 => 4 | 0 => 0 | 105 => 205 | 21 => 21 | 5 => 5 | 46 => 88 | 119 => 233 | 139 => 236 | 138 => 235 | 146 => 222 | 51 => 109 | n => n, fun | 1 => 0 | 3 => 1 | 4 => 2 | n => n⟩
theorem Tryd.lays146 : Go.Proofs.Lays.n146 Tryd.prog Tryd.lays146_ren := {
  mixed := by kernel_rfl
  f138 := Tryd.func159.trans (congrArg some (by kernel_rfl))
  f143 := Tryd.func160.trans (congrArg some (by kernel_rfl))
  f146 := Tryd.func81.trans (congrArg some (by kernel_rfl))
  f195 := Tryd.func189.trans (congrArg some (by kernel_rfl))
  f197 := Tryd.func190.trans (congrArg some (by kernel_rfl))
  f217 := Tryd.func186.trans (congrArg some (by kernel_rfl))
  f218 := Tryd.func191.trans (congrArg some (by kernel_rfl))
  f219 := Tryd.func155.trans (congrArg some (by kernel_rfl))
  f221 := Tryd.func124.trans (congrArg some (by kernel_rfl))
  f224 := Tryd.func182.trans (congrArg some (by kernel_rfl))
  f225 := Tryd.func187.trans (congrArg some (by kernel_rfl))
  f260 := Tryd.func212.trans (congrArg some (by kernel_rfl))
  f266 := Tryd.func206.trans (congrArg some (by kernel_rfl))
  f267 := Tryd.func188.trans (congrArg some (by kernel_rfl))
  f268 := Tryd.func158.trans (congrArg some (by kernel_rfl))
  f314 := Tryd.func211.trans (congrArg some (by kernel_rfl))
  t0 := Tryd.underlying0
  a0 := Tryd.isAgg0
  z0 := Tryd.sizeOf0
  v0 := Tryd.zeroValue0
  t3 := Tryd.underlying3
  a3 := Tryd.isAgg3
  z3 := Tryd.sizeOf3
  v3 := Tryd.zeroValue3
  t4 := Tryd.underlying4
  a4 := Tryd.isAgg4
  z4 := Tryd.sizeOf4
  v4 := Tryd.zeroValue4
  t5 := Tryd.underlying5
  a5 := Tryd.isAgg5
  z5 := Tryd.sizeOf5
  v5 := Tryd.zeroValue5
  t9 := Tryd.underlying9
  a9 := Tryd.isAgg9
  z9 := Tryd.sizeOf9
  v9 := Tryd.zeroValue9
  t21 := Tryd.underlying21
  a21 := Tryd.isAgg21
  z21 := Tryd.sizeOf21
  v21 := Tryd.zeroValue21
  t31 := Tryd.underlying57
  a31 := Tryd.isAgg57
  z31 := Tryd.sizeOf57
  v31 := Tryd.zeroValue57
  t46 := Tryd.underlying88
  a46 := Tryd.isAgg88
  z46 := Tryd.sizeOf88
  v46 := Tryd.zeroValue88
  t51 := Tryd.underlying109
  a51 := Tryd.isAgg109
  z51 := Tryd.sizeOf109
  v51 := Tryd.zeroValue109
  t105 := Tryd.underlying205
  a105 := Tryd.isAgg205
  z105 := Tryd.sizeOf205
  v105 := Tryd.zeroValue205
  t119 := Tryd.underlying233
  a119 := Tryd.isAgg233
  z119 := Tryd.sizeOf233
  t138 := Tryd.underlying235
  a138 := Tryd.isAgg235
  z138 := Tryd.sizeOf235
  v138 := Tryd.zeroValue235
  t139 := Tryd.underlying236
  a139 := Tryd.isAgg236
  z139 := Tryd.sizeOf236
  v139 := Tryd.zeroValue236
  t146 := Tryd.underlying222
  a146 := Tryd.isAgg222
  z146 := Tryd.sizeOf222
  v146 := Tryd.zeroValue222
  g1 := by kernel_rfl
  g3 := by kernel_rfl
  g4 := by kernel_rfl }
open Go.RowKit Go.Lib in
/-- strings.Split. (LAID: no walk: one application.) -/
theorem Tryd.strings_Split (s sep : ByteArray) (m : Int) (w : World) (hs : s.size < 4294967281) (hm : w.cell? ⟨0, 0, none⟩ = some (.int .i64 m)) (h1 : 1 ≤ sep.size) :
    Calls Tryd.prog 81 #[.string s, .string sep] w fun e w' =>
      e = .returned (.slice (some ⟨w.heap.size, 0, none⟩) (Lib.countB s sep + 1) (Lib.countB s sep + 1)) ∧ w' = w.alloc (.cells ((Lib.splitB sep 0 (Lib.countB s sep) s).map Value.string).toArray 9) := Any.strings_Split Tryd.lays146 (by kernel_rfl) s sep m w hs hm h1
end Go.Proofs

/- Sets in order: the plain law. No program in sight. -/
namespace Go.Proofs.YtmmjgbdihgdekaaDoor
open Go Go.RowKit
set_option linter.unusedSimpArgs false
set_option linter.unusedVariables false
set_option linter.unusedSectionVars false
section
variable {α : Type} [DecidableEq α] [Inhabited α] {lt : α → α → Bool}
structure LtOk (lt : α → α → Bool) : Prop where
  irr : ∀ x, lt x x = false
  trans : ∀ x y z, lt x y = true → lt y z = true → lt x z = true
  tri : ∀ x y, lt x y = true ∨ x = y ∨ lt y x = true
theorem LtOk.asym (h : LtOk lt) {x y : α} (h1 : lt x y = true) (h2 : lt y x = true) : False := by
  have := h.trans _ _ _ h1 h2
  rw [h.irr] at this; cases this
theorem LtOk.not (h : LtOk lt) {x y : α} (h1 : lt x y = true) : lt y x = false := by
  cases h2 : lt y x
  · rfl
  · exact (h.asym h1 h2).elim
/-! ### Of -/
/-! ### The document's Of -/
/-! ### A walk through two sets -/
end
end Go.Proofs.YtmmjgbdihgdekaaDoor

/- Texts in order. No program in sight. -/
namespace Go.Proofs.YtmmjgbdihgdekaaDoor
open Go Go.RowKit
set_option linter.unusedSimpArgs false
set_option linter.unusedVariables false
end Go.Proofs.YtmmjgbdihgdekaaDoor

/- A contract of the kit that rewrites a row in place, as a call of the walk. Over any program. -/
namespace Go.Proofs.YtmmjgbdihgdekaaDoor
open Go Go.RowKit Go.Sort
set_option linter.unusedSimpArgs false
set_option linter.unusedVariables false
theorem VCall.row {P : Program} {f : FuncId} {H : Heap} {b n : Nat} {c : Option Nat} {α : Type} [Inhabited α] (enc : α → Value) (encV : α → VV) (hto : ∀ x w Z ρ, VRel w Z ρ (encV x) (enc x)) (hinv : ∀ x w Z ρ y, VRel w Z ρ (encV x) y → y = enc x)
    (zs ys : List α) (hl : ys.length = zs.length) (hg : H.get b = some (.cells true (zs.map encV))) (hn : n = zs.length) (res : Nat → Nat → Value) (rv : VV)
    (hres : ∀ k c' w Z ρ, VRel w Z ρ (.sl b 0 n c 1) (.slice (some ⟨k, 0, none⟩) n c') → VRel w Z ρ rv (res k c'))
    (h : ∀ k c' w, Holds enc w k 0 zs.toArray → k < w.heap.size → zs.length ≤ c' → Calls P f #[.slice (some ⟨k, 0, none⟩) zs.length c'] w fun e w' => e = .returned (res k c') ∧ ∃ m os, w' = grow (putRow enc (Sort.ahead w m) k 0 ys.toArray) os) :
    VCall P f [.sl b 0 n c 1] H (fun v K => v = rv ∧ K = H.set b (.cells true (ys.map encV))) := fun B M Z ρ w ra h1 h2 => by
  obtain ⟨hlen, hrel2⟩ := h2
  match hra : ra.toList, hlen with
  | [y], _ =>
    have hv := hrel2 0 _ y rfl (by rw [hra]; rfl)
    obtain rfl : ra = #[y] := by
      cases ra
      simp only at hra
      rw [hra]
    cases hv with
    | @sl _ _ _ k N c' _ _ hk hcap hc hz =>
      obtain ⟨k', N', cs, t, fr, g1, g2, g3, g4, g5⟩ := h1.at_ hg
      rw [hk] at g1; injection g1 with g1; injection g1 with g1 g1'; subst g1 g1'
      subst hn
      have hgl := g4.length
      simp only [List.length_map, Array.length_toList] at hgl
      have hcell : ∀ j (hj : j < zs.length), cs[j]? = some (enc zs[j]) := fun j hj => by
        obtain ⟨c0, hc0, hr0⟩ := g4 j (encV zs[j]) (by rw [List.getElem?_map, List.getElem?_eq_getElem hj]; rfl)
        rw [hinv _ _ _ _ _ hr0] at hc0
        simpa using hc0
      have hH : Holds enc w k 0 zs.toArray := fun j hj => by
        have hj' : j < zs.length := by simpa using hj
        refine ⟨?_, ?_⟩
        · rw [Nat.zero_add, cell_of_cells g2, hcell j hj']
          congr 2
          rw [getElem!_pos zs.toArray j hj]
          simp
        · rw [Nat.zero_add, frozen_of_cells g2]
          exact nofr g5 (by omega)
      refine (h k c' w hH (h1.lt hg hk) hcap).mono ?_
      rintro e w' ⟨rfl, m, os, rfl⟩
      have e1 := Lib.putRow_eq_setCells enc w k 0 zs.toArray ys m hH (by simpa using hl)
      rw [e1]
      obtain ⟨s1, s2, s3, s4, s5, s6⟩ := heap_setCells k t fr (ys.map enc) 0 (w.drewN m) cs g2
      have hsize : (setRun cs.toList 0 (ys.map enc)).length = cs.size := by rw [length_setRun]; simp
      obtain ⟨x1, r1⟩ := h1.turn (y := .cells true (ys.map encV)) hg hk rfl rfl s4 s5 s6 s3 s2 s1 ⟨_, t, fr, rfl, by simpa using hsize.trans g3, (fun i u hu => by
        have hi : i < ys.length := by
          have := (List.getElem?_eq_some_iff.1 hu).1
          simpa using this
        rw [List.getElem?_map, List.getElem?_eq_getElem hi] at hu
        injection hu with hu
        subst hu
        refine ⟨enc ys[i], ?_, hto _ _ _ _⟩
        show (setRun cs.toList 0 (ys.map enc))[i]? = _
        rw [getElem?_setRun _ _ _ _ (by simp; omega), if_pos (by simp; omega), Nat.sub_zero, List.getElem?_map, List.getElem?_eq_getElem hi]
        rfl), g5⟩
      obtain ⟨x2, r2⟩ := r1.step (Z' := Z) (w' := grow ((w.drewN m).setCells k 0 (ys.map enc)) os) rfl rfl rfl (by show _ ≤ (_ ++ os).size; simp) (fun j hj => by show (_ ++ os)[j]? = _; rw [Array.getElem?_append_left hj]) (fun _ h => h) (fun _ h => .inl h)
      exact ⟨res k c', rv, _, Z, ρ, rfl, ⟨rfl, rfl⟩, x1.trans x2, r2, hres _ _ _ _ _ (.sl hk hcap hc hz)⟩
theorem Frz.ag {K : Heap} : ∀ {vs us : List VV}, FrzL K vs us → Frz K (.ag vs) (.ag us) := fun {vs us} h B w Z ρ ρ2 y hr hv => by
  cases hv with
  | @ag _ cs h1 r1 =>
    obtain ⟨cs⟩ := cs
    simp only at h1 r1
    have key : ∀ {vs us : List VV} {cs : List Value}, FrzL K vs us → Pw (VRel w Z ρ) vs cs → Pw (VRel w (fun k => Z k ∨ (B.heap.size ≤ k ∧ k < w.heap.size)) ρ2) us cs := by
      intro vs us cs h
      induction h generalizing cs with
      | nil => intro hp; exact ⟨hp.1, fun i u c hu => by simp at hu⟩
      | @cons v u r s hvu _ ih =>
        intro hp
        match cs, hp with
        | c :: ct, hp =>
          have h0 := hp.2 0 v c rfl rfl
          have ht : Pw (VRel w Z ρ) r ct := ⟨by have := hp.1; simpa using this, fun i u c hu hc => hp.2 (i + 1) u c (by simpa using hu) (by simpa using hc)⟩
          exact Pw.cons (hvu B w Z ρ ρ2 c hr h0) (ih ht)
        | [], hp => have := hp.1; simp at this
    have := key h ⟨h1, r1⟩
    exact .ag this.1 this.2
end Go.Proofs.YtmmjgbdihgdekaaDoor

/- What is handed back to a caller whose slices were looked at. Over any program. -/
namespace Go.Proofs.YtmmjgbdihgdekaaDoor
open Go Go.RowKit
set_option linter.unusedSimpArgs false
set_option linter.unusedVariables false
theorem Frx.ro0 {K : Heap} : Frx K (.ro 0 []) (.ro 0 []) := fun B w Z ρ ρ2 y _ hv => by
  cases hv with
  | ro => exact .ro0
  | ro0 => exact .ro0
theorem Frx.ag {K : Heap} {vs us : List VV} (h : FrxL K vs us) : Frx K (.ag vs) (.ag us) := fun B w Z ρ ρ2 y hr hv => by
  cases hv with
  | @ag _ cs h1 r1 =>
    obtain ⟨cs⟩ := cs
    simp only at h1 r1
    have key : ∀ {vs us : List VV} {cs : List Value}, FrxL K vs us → Pw (VRel w Z ρ) vs cs → Pw (VRel w (fun k => B.heap.size ≤ k ∧ k < w.heap.size) ρ2) us cs := by
      intro vs us cs h
      induction h generalizing cs with
      | nil => intro hp; exact ⟨hp.1, fun i u c hu => by simp at hu⟩
      | @cons v u r s hvu _ ih =>
        intro hp
        match cs, hp with
        | c :: ct, hp =>
          have h0 := hp.2 0 v c rfl rfl
          have ht : Pw (VRel w Z ρ) r ct := ⟨by have := hp.1; simpa using this, fun i u c hu hc => hp.2 (i + 1) u c (by simpa using hu) (by simpa using hc)⟩
          exact Pw.cons (hvu B w Z ρ ρ2 c hr h0) (ih ht)
        | [], hp => have := hp.1; simp at this
    have := key h ⟨h1, r1⟩
    exact .ag this.1 this.2
end Go.Proofs.YtmmjgbdihgdekaaDoor

/- Sets of texts alone: slices, Clone, Clip, Of. -/

namespace Go.Proofs.YtmmjgbdihgdekaaDoor
open Go Go.RowKit
set_option linter.unusedSimpArgs false
set_option linter.unusedVariables false
set_option maxRecDepth 100000
set_option maxHeartbeats 1000000
theorem sty_S : SlTy Tryd.prog 57 1 16 := ⟨⟨_, _, _, rfl, rfl, rfl, rfl, rfl, rfl⟩⟩
theorem one_S (l : List (List UInt8)) : (l.map strV).all VV.one = true := by simp [strV, VV.one]
theorem velems_S (l : List (List UInt8)) (H : Heap) : velems 1 (roS l) H = some (l.length, l.map strV) := by simp [velems, roS]
theorem cloneG0_S (x : List (List UInt8)) (hm : x.length ≤ 1000000) : VCall Tryd.prog 86 [roS x] ⟨[], 0⟩ (fun v K => v = .gs 0 x.length 1 ∧ K = ⟨[(0, .opt (x.map strV))], 1⟩) := by
  by_cases hl : x.length = 0
  · have hl2 := List.eq_nil_of_length_eq_zero hl
    subst hl2
    refine VCall.outR (Q := fun v K => (v = .sc (.slice none 0 0) ∨ ∃ c, v = .sl c 0 0 (some 0) 1)) ?_ ?_
    · refine VCall.go Tryd.func86 rfl ?_
      repeat' (first | with_reducible refine And.intro ?_ ?_ | ((with_reducible intro hc); (try simp only [zA, zB, zC, zD, zE, zF, zG, zH, zI, zJ, zK, zL, zM, zN, zO, zP, zQ, zR, zS, zT, zU, zV, zW] at hc); (first | (exact absurd rfl hc) | (exact absurd trivial hc) | (exfalso; omega) | skip)) | ((conv => whnf); first | with_reducible refine And.intro ?_ ?_ | refine ifB_intro ?_ ?_ | refine xA (by omega) ?_ | ((refine xB ?_); intro kw hk1 hk2) | refine xC (by omega) ?_ | refine xD ?_ | refine xE (by omega) ?_ | refine xF (by omega) ?_ | refine xG ?_ | refine xH ?_ | refine xI (by omega) ?_ | refine xJ (by omega) ?_ | (with_reducible refine stopA ?_) | refine Exists.intro _ (And.intro (by rfl) ?_) | refine GOp.via (by rfl) ?_ | (with_reducible first | refine stopO ?_ | refine stopE ?_ | refine stopD ?_ | refine stopW ?_ | refine stopG ?_ | refine stopC ?_ | refine stopR ?_)))
      · exact Done'.mk (.inl rfl)
      · exact Done'.mk (.inr ⟨_, rfl⟩)
    · rintro v K hv
      refine ⟨.gs 0 0 1, [(0, .opt [])], 1, [], rfl, ?_, ⟨rfl, trivial⟩, rfl, rfl⟩
      rcases hv with rfl | ⟨c, rfl⟩
      · exact .gsN
      · exact .gsZ
  · refine VCall.outR (Q := fun v K => v = .sl 1 0 x.length none 1 ∧ K.get 1 = some (.cells true (x.map strV))) ?_ ?_
    · refine VCall.go Tryd.func86 rfl ?_
      repeat' (first | with_reducible refine And.intro ?_ ?_ | ((with_reducible intro hc); (try simp only [zA, zB, zC, zD, zE, zF, zG, zH, zI, zJ, zK, zL, zM, zN, zO, zP, zQ, zR, zS, zT, zU, zV, zW] at hc); (first | (exact absurd rfl hc) | (exact absurd trivial hc) | (exfalso; omega) | skip)) | ((conv => whnf); first | with_reducible refine And.intro ?_ ?_ | refine ifB_intro ?_ ?_ | refine xA (by omega) ?_ | ((refine xB ?_); intro kw hk1 hk2) | refine xC (by omega) ?_ | refine xD ?_ | refine xE (by omega) ?_ | refine xF (by omega) ?_ | refine xG ?_ | refine xH ?_ | refine xI (by omega) ?_ | refine xJ (by omega) ?_ | (with_reducible refine stopA ?_) | refine Exists.intro _ (And.intro (by rfl) ?_) | refine GOp.via (by rfl) ?_ | (with_reducible first | refine stopO ?_ | refine stopE ?_ | refine stopD ?_ | refine stopW ?_ | refine stopG ?_ | refine stopC ?_ | refine stopR ?_)))
      refine GOp'.via ((vapp_full sty_S (d := .slice 9) Tryd.underlying57 (by intro k h; cases h) (b := 0) (o := 0) (n := 0) (c := 0) (z' := 1) (vs := []) (rw := true) (velems_S x _) (one_S x) rfl (by omega) (by omega) (by simp) (by omega) (by omega)).trans (by rw [Nat.zero_add])) ?_
      repeat' (first | with_reducible refine And.intro ?_ ?_ | ((with_reducible intro hc); (try simp only [zA, zB, zC, zD, zE, zF, zG, zH, zI, zJ, zK, zL, zM, zN, zO, zP, zQ, zR, zS, zT, zU, zV, zW] at hc); (first | (exact absurd rfl hc) | (exact absurd trivial hc) | (exfalso; omega) | skip)) | ((conv => whnf); first | with_reducible refine And.intro ?_ ?_ | refine ifB_intro ?_ ?_ | refine xA (by omega) ?_ | ((refine xB ?_); intro kw hk1 hk2) | refine xC (by omega) ?_ | refine xD ?_ | refine xE (by omega) ?_ | refine xF (by omega) ?_ | refine xG ?_ | refine xH ?_ | refine xI (by omega) ?_ | refine xJ (by omega) ?_ | (with_reducible refine stopA ?_) | refine Exists.intro _ (And.intro (by rfl) ?_) | refine GOp.via (by rfl) ?_ | (with_reducible first | refine stopO ?_ | refine stopE ?_ | refine stopD ?_ | refine stopW ?_ | refine stopG ?_ | refine stopC ?_ | refine stopR ?_)))
      exact Done'.mk ⟨rfl, rfl⟩
    · rintro v K ⟨rfl, h1⟩
      refine ⟨.gs 0 x.length 1, [(0, .opt (x.map strV))], 1, [(1, 0)], rfl, .gsS (List.Mem.head _) rfl hl, ⟨⟨_, h1, .toOpt (.of (nameless_map nameless_strV x))⟩, trivial⟩, rfl, rfl⟩
end Go.Proofs.YtmmjgbdihgdekaaDoor

/- Sets of texts alone: Sort, Compact, Clip, Of. -/
namespace Go.Proofs.YtmmjgbdihgdekaaDoor
open Go Go.RowKit
set_option linter.unusedSimpArgs false
set_option linter.unusedVariables false
set_option maxRecDepth 100000
set_option maxHeartbeats 1000000
theorem exact_mapS (l : List (List UInt8)) : ∀ v ∈ l.map strV, Exact v := fun v hv => by
  obtain ⟨x, _, rfl⟩ := List.mem_map.1 hv
  exact exact_sc _
end Go.Proofs.YtmmjgbdihgdekaaDoor

