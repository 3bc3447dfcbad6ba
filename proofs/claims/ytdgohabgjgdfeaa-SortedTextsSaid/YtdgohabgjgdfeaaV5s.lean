/- What comes in, as values of the walk: rows of texts. Over any program. -/
import Derived.Test.YtdgohabgjgdfeaaV5
import Derived.Test.YtdgohabgjgdfeaaVd
import Derived.Deep.Strs
namespace Go.Proofs.Ytdgohabgjgdfeaa
open Go Go.ChangeShapes Go.WideShapes Go.RowKit
set_option linter.unusedSimpArgs false
set_option linter.unusedVariables false
theorem open_rs {P : Program} {H : Type} {enc : TypeId × Value → H} {W : World} {base : Nat} {t e : TypeId} {v : Value} {d : DataW H} {p : List MemPlace} (ut : P.underlying t = some (.slice e)) (ue : P.underlying e = some .string) (hc : P.cellsOf e = 1)
    (hval : Value.okWide P W .any base t v) (h : DataW.Trod enc P W 0 (fun _ => true) true t v d p) : ∃ l : List (List UInt8), l.length ≤ maxLen ∧ VRel W (Old W) noName (.ro l.length (l.map strV)) v := by
  obtain ⟨a1, len, cap, rfl⟩ := okWide_slice ut hval
  obtain ⟨fuel, hf⟩ := h
  rcases Go.Deep.open_strs ut ue hc hf with ⟨hcs, hx⟩ | ⟨a, len', cap', m, Sx, hcs, _, hl, hm, hmm, hx, hcell⟩
  · simp [Value.cells] at hcs
    obtain ⟨rfl, rfl, rfl⟩ := hcs
    exact ⟨[], Nat.zero_le _, .ro0⟩
  · simp [Value.cells] at hcs
    obtain ⟨rfl, rfl, rfl⟩ := hcs
    simp only [if_true] at hmm
    subst hmm
    refine ⟨(List.range len).map fun i => (Sx i).data.toList, by simp; omega, ?_⟩
    have hlen : ((List.range len).map fun i => (Sx i).data.toList).length = len := by simp
    rw [hlen]
    by_cases h0 : len = 0
    · subst h0
      exact .ro0
    · obtain ⟨ab, ao, spot⟩ := a
      have hspot : spot = none := by simpa [Addr.add] using World.cell?_spot (hcell 0 (by omega)).1
      subst hspot
      have hZ : Old W ab := by
        have := (hcell 0 (by omega)).1
        unfold Old
        simp only [Addr.add, World.cell?] at this
        cases hh : W.heap[ab]? with
        | none => simp [hh] at this
        | some o => exact (Array.getElem?_eq_some_iff.1 hh).1
      refine .ro (cs := (List.range len).map fun i => Value.string (Sx i)) hZ hl (by simp) (fun i hi => ?_) (fun i u c hu hc => ?_)
      · simp only [List.length_map, List.length_range] at hi
        have := (hcell i (by omega)).1
        rw [Addr.add_lit] at this
        rw [this, List.getElem?_map, List.getElem?_range hi]
        rfl
      · have hi : i < len := by
          have := (List.getElem?_eq_some_iff.1 hc).1
          simpa using this
        rw [List.getElem?_map, List.getElem?_map, List.getElem?_range hi] at hu
        rw [List.getElem?_map, List.getElem?_range hi] at hc
        simp only [Option.map_some, Option.some.injEq] at hu hc
        subst hu hc
        exact .sc rfl
end Go.Proofs.Ytdgohabgjgdfeaa
