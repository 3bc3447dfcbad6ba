/- PROVED: for every input cordonlaw21.ValueRules returns true, and its arguments read as before; the listed tables hold what the program's text lays (the card ties them). -/
import Derived.Test.YtkamcblgpnanlaaDoorCards
import Derived.Test.YtkamcblgpnanlaaDoorTie
import Derived.Test.YtkamcblgpnanlaaDoorR5
import Derived.Test.YtkamcblgpnanlaaDoorV5
import Derived.ProofKit
import Derived.OpenShut
import Derived.ShutString
import Derived.ChangeOld
import Derived.Below
import Derived.Lib.SmallJoins
import Derived.Deep.DeepHandedRow
import Derived.Lib.LaidTab
namespace Go.Proofs.YtkamcblgpnanlaaDoor.lawValueRules
open Go.ChangeShapes Go.WideShapes Go.ChangeAt Go.RowKit Go.Joins
open Go.ChangeMaps (open_string shut_string)
set_option linter.unusedSimpArgs false
set_option linter.unusedVariables false

theorem own : ownKnob Tryd.prog.godebug = none := by kernel_rfl
theorem laidOut : laidOutB Tryd.prog = true := by kernel_rfl
theorem u8cells : Tryd.prog.cellsOf 5 = 1 := by kernel_rfl
theorem cellsP : Tryd.prog.cellsOf 47 = 3 := by kernel_rfl
theorem vV_rel {w : World} {Z : Nat → Prop} {ρ : Nat → Option (Nat × Nat)} (x y : Int) (l : List UInt8) : VRel w Z ρ (vV x y l) (.agg #[.int .i64 x, .int .i64 y, .string ⟨⟨l⟩⟩]) := .ag' (Pw.cons (.sc rfl) (Pw.cons (.sc rfl) (Pw.cons (.sc rfl) Pw.nil)))
theorem gTab : Tryd.prog.globalNamed "internal/strconv.uint64pow10" = some 1 := by kernel_rfl
theorem gTabType : (Tryd.prog.globals[1]?).map (·.type) = some 255 := by kernel_rfl
theorem cellsPow : Tryd.prog.cellsOf 255 = 20 := by kernel_rfl
theorem cellsU : Tryd.prog.cellsOf 126 = 1 := by kernel_rfl
theorem laidMet_tail {P : Program} {W : World} {x : String × DataW Unit} {rest : List (String × DataW Unit)} (h : laidMet P (x :: rest) W) : laidMet P rest W := by
  obtain ⟨ps, ⟨g', t', cs, fuel, p, q, hg', ht', hvar, hd, hr, rfl⟩, hn, hf⟩ := h
  exact ⟨q, hr, (List.nodup_append.1 hn).2.1, fun b off hm => hf b off (List.mem_append_right _ hm)⟩
theorem table {W : World} (h : laidMetH Tryd.prog Rows.valueRulesRow.laid W) : Tabs W :=
  Lib.tabIs_of_head (rest := []) gTab gTabType Tryd.underlying255 Tryd.underlying126 cellsU cellsPow (laidMet_tail (laidMet_tail ((show laidMet Tryd.prog Rows.valueRulesRow.laid W from h))))
theorem glob {W : World} (h : Tabs W) : Glob W (fun _ => False) := fun w' a b c d e => Lib.tabBelow_of_tabIs h w' ⟨a, b, c, d, fun k hk => e k hk id⟩

set_option maxRecDepth 100000 in
theorem contract (H : Type) (enc : TypeId × Value → H) (W : World) (base : Nat) (args : Array Value) (ds gs : List (DataW H)) (before : List MemPlace)
    (hval : ∀ (j : Nat) t v, Tryd.f6.params[j]? = some t → args[j]? = some v → Value.okWide Tryd.prog W .any base t v)
    (hW : DataW.Whole enc Tryd.prog Tryd.f6.params.toList Rows.valueRulesSpec.vars false W args.toList ds gs before) (hL : laidMetH Tryd.prog Rows.valueRulesRow.laid W) :
    Calls Tryd.prog 6 args W fun e W' => ∃ v, e = .returned v ∧ Rows.valueRulesSpec.post enc Tryd.prog Tryd.f6 false true false false W args v W' := by
  have hW' := hW
  obtain ⟨p, q, hA0, hV, rfl, hfz, hnd⟩ := hW
  have hA : DataW.TrodAll enc Tryd.prog W 0 (fun _ => true) true Tryd.f6.params.toList args.toList ds p := hA0
  rw [Tryd.params6] at hA hval
  obtain ⟨v0, vs0, d0, ds0, p0, q0, hargs, rfl, rfl, h0, r0⟩ := trodAll_cons hA
  obtain ⟨v1, vs1, d1, ds1, p1, q1, rfl, rfl, rfl, h1, r1⟩ := trodAll_cons r0
  obtain ⟨v2, vs2, d2, ds2, p2, q2, rfl, rfl, rfl, h2, r2⟩ := trodAll_cons r1
  obtain ⟨v3, vs3, d3, ds3, p3, q3, rfl, rfl, rfl, h3, r3⟩ := trodAll_cons r2
  obtain ⟨rfl, rfl, rfl⟩ := trodAll_nil r3
  obtain rfl : args = #[v0, v1, v2, v3] := by cases args; simp_all
  obtain ⟨rfl, rfl⟩ := trodVars_none hV
  have k0 := h0
  have lt0 : ∀ x ∈ p0, x.block < W.heap.size := by obtain ⟨m, hm⟩ := k0; exact DataW.trod_lt m _ _ _ hm
  have k1 := h1
  have lt1 : ∀ x ∈ p1, x.block < W.heap.size := by obtain ⟨m, hm⟩ := k1; exact DataW.trod_lt m _ _ _ hm
  have k2 := h2
  have lt2 : ∀ x ∈ p2, x.block < W.heap.size := by obtain ⟨m, hm⟩ := k2; exact DataW.trod_lt m _ _ _ hm
  have k3 := h3
  have lt3 : ∀ x ∈ p3, x.block < W.heap.size := by obtain ⟨m, hm⟩ := k3; exact DataW.trod_lt m _ _ _ hm
  have hwalk : Calls Tryd.prog 6 #[v0, v1, v2, v3] W fun e w' => e = .returned (.bool true) ∧ Below W.heap.size W w' := by
    obtain ⟨n0, rfl, rfl, rfl, hn00⟩ := open_int Tryd.underlying3 (hval 0 3 v0 rfl rfl) h0
    have hn0 := bounds_i64 hn00
    obtain ⟨n1, rfl, rfl, rfl, hn10⟩ := open_int Tryd.underlying3 (hval 1 3 v1 rfl rfl) h1
    have hn1 := bounds_i64 hn10
    obtain ⟨a20, a21, a22, y20, y21, y22, m2, rfl, rfl, rfl, hy20, hy21, hy22⟩ := open_agg3 Tryd.underlying47 (by kernel_rfl) cellsP (hval 2 47 v2 rfl rfl) h2
    obtain ⟨x20, e20, rfl, wx20⟩ := DataW.trod_int Tryd.underlying3 hy20
    obtain ⟨x21, e21, rfl, wx21⟩ := DataW.trod_int Tryd.underlying3 hy21
    obtain ⟨x22, e22, rfl, wx22⟩ := DataW.trod_string Tryd.underlying9 hy22
    simp at e20 e21 e22
    subst e20 e21 e22
    obtain ⟨⟨l2⟩⟩ := x22
    obtain ⟨a30, a31, a32, y30, y31, y32, m3, rfl, rfl, rfl, hy30, hy31, hy32⟩ := open_agg3 Tryd.underlying47 (by kernel_rfl) cellsP (hval 3 47 v3 rfl rfl) h3
    obtain ⟨x30, e30, rfl, wx30⟩ := DataW.trod_int Tryd.underlying3 hy30
    obtain ⟨x31, e31, rfl, wx31⟩ := DataW.trod_int Tryd.underlying3 hy31
    obtain ⟨x32, e32, rfl, wx32⟩ := DataW.trod_string Tryd.underlying9 hy32
    simp at e30 e31 e32
    subst e30 e31 e32
    obtain ⟨⟨l3⟩⟩ := x32
    exact VCall.law (valueRules_walk n0 n1 x20 x21 l2 x30 x31 l3 hn0 hn1) W #[.int .i64 n0, .int .i64 n1, .agg #[.int .i64 x20, .int .i64 x21, .string ⟨⟨l2⟩⟩], .agg #[.int .i64 x30, .int .i64 x31, .string ⟨⟨l3⟩⟩]] (Pw.cons (.sc rfl) (Pw.cons (.sc rfl) (Pw.cons (vV_rel x20 x21 l2) (Pw.cons (vV_rel x30 x31 l3) Pw.nil)))) (glob (table hL))
  clear hA0
  refine hwalk.mono fun e W' ⟨he, bel⟩ => ?_
  subst he
  exact ⟨_, rfl, _, _, _, [], _, [], hW', trodAll_mk1 (shut_bool Tryd.underlying4 _), (trodAll_cons_mk (Below.trod laidOut (by kernel_rfl) (of_decide_eq_true (by kernel_rfl)) k0 bel lt0) (trodAll_cons_mk (Below.trod laidOut (by kernel_rfl) (of_decide_eq_true (by kernel_rfl)) k1 bel lt1) (trodAll_cons_mk (Below.trod laidOut (by kernel_rfl) (of_decide_eq_true (by kernel_rfl)) k2 bel lt2) (trodAll_cons_mk (Below.trod laidOut (by kernel_rfl) (of_decide_eq_true (by kernel_rfl)) k3 bel lt3) trodAll_mk0)))), rfl, bel.frame _, fun h => by cases h⟩

/-- A datum's cells. -/
def cellsOfData : DataW Unit → Array Value
  | .agg l => (l.map fun x => match x with | .lit (.int k n) => Value.int k n | _ => undef).toArray
  | _ => #[]
def setRow (d : DataW Unit) : Obj → Obj
  | .cells _ t frozen => .cells (cellsOfData d) t frozen
  | o => o
/-- A world for the witness: the settled one, the tables holding what their initialisers lay. -/
noncomputable def laidWorld (os : Os) : World :=
  { World.holding Tryd.prog os ⟨#[], #[], []⟩ with heap := ((((World.holding Tryd.prog os ⟨#[], #[], []⟩).heap.modify 4 (setRow Rows.laid_math_bits_deBruijn32tab)).modify 5 (setRow Rows.laid_math_bits_deBruijn64tab)).modify 1 (setRow Rows.laid_internal_strconv_uint64pow10)) }
theorem laid_met (os : Os) : laidMet Tryd.prog Rows.valueRulesRow.laid ((laidWorld os).forCall (fun _ _ => 0) ⟨#[], #[.int .i64 0, .int .i64 0, .agg #[.int .i64 0, .int .i64 0, .string ⟨#[]⟩], .agg #[.int .i64 0, .int .i64 0, .string ⟨#[]⟩]], []⟩).memory :=
  laidMet_of_run' 8 (by kernel_rfl) (by kernel_rfl)
theorem reads (os : Os) {H : Type} (enc : TypeId × Value → H) : ∃ places, DataW.whole enc Tryd.prog ((laidWorld os).forCall (fun _ _ => 0) ⟨#[], #[.int .i64 0, .int .i64 0, .agg #[.int .i64 0, .int .i64 0, .string ⟨#[]⟩], .agg #[.int .i64 0, .int .i64 0, .string ⟨#[]⟩]], []⟩).memory Tryd.f6.params.toList Rows.valueRulesSpec.vars false (#[.int .i64 0, .int .i64 0, .agg #[.int .i64 0, .int .i64 0, .string ⟨#[]⟩], .agg #[.int .i64 0, .int .i64 0, .string ⟨#[]⟩]] : Array Value).toList 8 = some ([.lit (.int .i64 0), .lit (.int .i64 0), .agg [.lit (.int .i64 0), .lit (.int .i64 0), .lit (.string [])], .agg [.lit (.int .i64 0), .lit (.int .i64 0), .lit (.string [])]], [], places) :=
  ⟨[], by kernel_rfl⟩

set_option maxRecDepth 100000 in
theorem lifted (os : Os) (started : os.Started) (H : Type) (enc : TypeId × Value → H) (F : Stop.Interp) :
    ReturnsInHanded {} Tryd.checked os 6 .any ((OpenSpec.ofChange Rows.valueRulesSpec).preRow enc Tryd.prog Tryd.f6 Rows.valueRulesRow.domain false Rows.valueRulesRow.laid) (((OpenSpec.ofChange Rows.valueRulesSpec).at F).post enc Tryd.prog Tryd.f6 false true false false) := by
  obtain ⟨places, hx⟩ := reads os enc
  refine returnsInHanded_of_row (C := Tryd.checked) (s := OpenSpec.ofChange Rows.valueRulesSpec) own started (by kernel_rfl) Tryd.func6
    (witness_row_at (enc := enc) (C := Tryd.checked) false (laidWorld os) #[.int .i64 0, .int .i64 0, .agg #[.int .i64 0, .int .i64 0, .string ⟨#[]⟩], .agg #[.int .i64 0, .int .i64 0, .string ⟨#[]⟩]] rfl (by kernel_rfl) (by kernel_rfl) (by kernel_rfl)
      (OpenSpec.preRow_of_cond 8 hx (by kernel_rfl) (fun k hk => by cases hk) (by kernel_rfl) (laid_met os))) ?_
  intro W base args ds gs before hval hW _ _ _ hL _ _
  exact contract H enc W base args ds gs before hval hW hL

theorem said : Rows.ValueRulesSaid :=
  OpenClaim.holds_of_cond 6 Tryd.f6 rfl rfl rfl rfl rfl rfl rfl ⟨rfl, rfl, rfl, rfl, rfl⟩ rfl rfl rfl rfl rfl (by kernel_rfl) Tryd.func6 (by kernel_rfl)
    (of_decide_eq_true (by kernel_rfl)) (by unfold Func.isWrapper; first | (rw [if_pos (by decide +kernel)]; kernel_rfl) | (rw [if_neg (by decide +kernel)]; exact ⟨rfl, rfl⟩))
    (fun os started H enc _ F => by rw [OpenClaim.pre_eq_preRow]; exact lifted os started H enc F)
theorem plain (f : FuncId) (fn : Func) (hf : Tryd.pinned.checked.prog.funcNamed "cordon/cordonlaw21.ValueRules" = some f) (hfn : Tryd.pinned.checked.prog.funcs[f]? = some fn) :
    false = Tryd.pinned.checked.prog.looks [] ∧ ∀ (j : Nat) t, fn.params[j]? = some t → Tryd.pinned.checked.prog.wantsStandIn t = false := by
  obtain rfl : f = 6 := Option.some.inj ((show Tryd.prog.funcNamed "cordon/cordonlaw21.ValueRules" = some 6 by kernel_rfl).symm.trans hf) |>.symm
  obtain rfl : fn = Tryd.f6 := (Option.some.inj (Tryd.func6.symm.trans hfn)).symm
  refine ⟨by kernel_rfl, fun j t ht => ?_⟩
  rw [Tryd.params6] at ht
  have : t = 3 ∨ t = 47 := by
    have hm := Array.mem_of_getElem? ht
    simp at hm
    omega
  rcases this with rfl | rfl
  · exact (show Tryd.prog.wantsStandIn 3 = false by kernel_rfl)
  · exact (show Tryd.prog.wantsStandIn 47 = false by kernel_rfl)
/-- The card. -/
theorem card : Rows.ValueRulesCardSaid :=
  Claim7.holds_tied_plain_at .later [] _ _ _ _ said (fun _ h => by cases h) (by kernel_rfl) (fun _ h => by cases h) valueRules_row_tie rfl ⟨rfl, rfl⟩ (by kernel_rfl) rfl plain (by kernel_rfl)
#print axioms card
end Go.Proofs.YtkamcblgpnanlaaDoor.lawValueRules
