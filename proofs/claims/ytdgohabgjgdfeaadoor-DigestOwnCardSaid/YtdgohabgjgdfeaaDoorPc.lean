import Derived.Test.YtdgohabgjgdfeaaDoorS5
import Derived.Test.YtdgohabgjgdfeaaDoorV4
import Derived.ProofKit
import Derived.OpenShut
import Derived.Test.YtdgohabgjgdfeaaDoorPa
import Derived.Test.YtdgohabgjgdfeaaDoorPb
import Derived.Test.YtdgohabgjgdfeaaDoorCards
import Derived.Test.YtdgohabgjgdfeaaDoorTie
import Derived.ShutString
import Derived.ChangeOld
import Derived.Below
import Derived.Lib.SmallJoins
import Derived.Deep.DeepHandedRow
import Derived.Lib.LaidTab
/- The fixed fact of layer 38, by reckoning; a block of the sum is known. -/
namespace Go.Proofs.YtdgohabgjgdfeaaDoor
open Go Go.RowKit
set_option maxRecDepth 100000
set_option maxHeartbeats 4000000
theorem lives38_run : isV (vcallO orcB Tryd.prog (vcodeO orcB Tryd.prog 80) 14 [] ⟨[], 0⟩) (.sc (.bool true)) = true := by kernel_rfl
theorem lives38_call (H : Heap) : VCall Tryd.prog 14 [] H (fun x K => x = .sc (.bool true) ∧ K = H) := VCall.closedO orcB_ok mixed 80 (by simp) lives38_run
end Go.Proofs.YtdgohabgjgdfeaaDoor

/- What comes in, as values of the walk. Over any program. -/
namespace Go.Proofs.YtdgohabgjgdfeaaDoor
open Go Go.ChangeShapes Go.WideShapes Go.RowKit
set_option linter.unusedSimpArgs false
set_option linter.unusedVariables false
/-- All that is there. -/
def Old (w : World) : Nat → Prop := fun k => k < w.heap.size
def noName : Nat → Option (Nat × Nat) := fun _ => none
theorem open_roB {P : Program} {H : Type} {enc : TypeId × Value → H} {W : World} {base : Nat} {t e : TypeId} {v : Value} {d : DataW H} {p : List MemPlace} (ut : P.underlying t = some (.slice e)) (ue : P.underlying e = some (.int .u8)) (hc : P.cellsOf e = 1)
    (hval : Value.okWide P W .any base t v) (h : DataW.Trod enc P W 0 (fun _ => true) true t v d p) : ∃ l : List UInt8, l.length ≤ maxLen ∧ VRel W (Old W) noName (roB l) v := by
  obtain ⟨a1, len, cap, rfl⟩ := okWide_slice ut hval
  obtain ⟨fuel, hf⟩ := h
  rcases open_ints ut ue hc hf with ⟨hcs, hx⟩ | ⟨a, len', cap', zs, hcs, _, hl, hm, hz, hx, hcell, hwz⟩
  · simp [Value.cells] at hcs
    obtain ⟨rfl, rfl, rfl⟩ := hcs
    exact ⟨[], Nat.zero_le _, .ro0⟩
  · simp [Value.cells] at hcs
    obtain ⟨rfl, rfl, rfl⟩ := hcs
    simp only [if_true] at hz
    refine ⟨(zs.take len).map fun n => UInt8.ofNat n.toNat, by simp; omega, ?_⟩
    have hlen : ((zs.take len).map fun n => UInt8.ofNat n.toNat).length = len := by simp; omega
    unfold roB
    rw [hlen]
    by_cases h0 : len = 0
    · subst h0
      exact .ro0
    · obtain ⟨ab, ao, spot⟩ := a
      have hspot : spot = none := by simpa [Addr.add] using World.cell?_spot (hcell 0 (by omega))
      subst hspot
      have hZ : Old W ab := by
        have := hcell 0 (by omega)
        unfold Old
        simp only [Addr.add, World.cell?] at this
        cases hh : W.heap[ab]? with
        | none => simp [hh] at this
        | some o => exact (Array.getElem?_eq_some_iff.1 hh).1
      refine .ro (cs := (zs.take len).map (Value.int .u8)) hZ hl (by simp) (fun i hi => ?_) (fun i u c hu hc => ?_)
      · simp only [List.length_map, List.length_take] at hi
        have := hcell i (by omega)
        rw [Addr.add_lit] at this
        rw [this, List.getElem?_map, List.getElem?_take_of_lt (by omega), List.getD_eq_getElem?_getD, List.getElem?_eq_getElem (show i < zs.length by omega)]
        rfl
      · have hi : i < len := by
          have := (List.getElem?_eq_some_iff.1 hc).1
          simp at this
          omega
        rw [List.getElem?_map, List.getElem?_map, List.getElem?_take_of_lt hi, List.getElem?_eq_getElem (show i < zs.length by omega)] at hu
        rw [List.getElem?_map, List.getElem?_take_of_lt hi, List.getElem?_eq_getElem (show i < zs.length by omega)] at hc
        simp only [Option.map_some, Option.some.injEq] at hu hc
        subst hu hc
        have hb := range_u8 hwz i
        rw [List.getElem?_eq_getElem (show i < zs.length by omega)] at hb
        simp only [Option.getD_some] at hb
        have : ((UInt8.ofNat (zs[i]'(by omega)).toNat).toNat : Int) = zs[i]'(by omega) := by
          simp only [UInt8.toNat_ofNat']
          omega
        unfold bV
        rw [this]
        exact .sc rfl
theorem byte_of {n : Int} (h : (Lit.int .u8 n).wf = true) : ∃ b : UInt8, n = (b.toNat : Int) := by
  have hb : 0 ≤ n ∧ n ≤ 255 := by
    simp [Lit.wf, IntKind.min, IntKind.max, IntKind.signed, IntKind.bits] at h
    omega
  refine ⟨UInt8.ofNat n.toNat, ?_⟩
  simp only [UInt8.toNat_ofNat']
  omega
end Go.Proofs.YtdgohabgjgdfeaaDoor

/- Parse, told of all its users' arguments. -/
namespace Go.Proofs.YtdgohabgjgdfeaaDoor
open Go Go.RowKit
set_option linter.unusedSimpArgs false
set_option linter.unusedVariables false
set_option maxRecDepth 100000
set_option maxHeartbeats 4000000
theorem parse_call (l : List UInt8) (H : Heap) (hl : l.length ≤ 900) : VCall Tryd.prog 20 [roB l] H (fun v K => v = wantV (wants l) ∧ K = H) :=
  VCall.frozen (Q := fun v K => Frx K v (wantV (wants l))) (by simp [nameless_roB]) (parse0_call l hl) (fun v K h => h.frz)
theorem parseG_call (l : List UInt8) {H : Heap} {b n : Nat} {vs : List VV} (hl : l.length ≤ 900) (hg : H.get b = some (.opt vs)) (hv : vs = l.map bV) (hn : n = l.length) : VCall Tryd.prog 20 [.gs b n 1] H (fun v K => v = wantV (wants l) ∧ K = H) := by
  subst hv hn
  exact VCall.viewed (args' := [roB l]) (Q := fun v K => Frx K v (wantV (wants l))) (.cons (View.gs hg (by simp) (nameless_map nameless_bV l)) .nil) (parse0_call l hl) (fun v K h => h)
theorem parseS_call (l : List UInt8) {H : Heap} {b n : Nat} {c : Option Nat} {vs : List VV} (hl : l.length ≤ 900) (hg : H.get b = some (.cells true vs)) (hv : vs = l.map bV) (hn : n = l.length) : VCall Tryd.prog 20 [.sl b 0 n c 1] H (fun v K => v = wantV (wants l) ∧ K = H) := by
  subst hv hn
  refine VCall.viewed (args' := [roB l]) (Q := fun v K => Frx K v (wantV (wants l))) (.cons ?_ .nil) (parse0_call l hl) (fun v K h => h)
  have := View.sl (H := H) (b := b) (o := 0) (n := l.length) (z := 1) (c := c) hg (by simp) (nameless_map nameless_bV l)
  rw [List.drop_zero, Nat.mul_one, List.take_of_length_le (by simp)] at this
  unfold roB
  exact this
theorem parseN_call (H : Heap) : VCall Tryd.prog 20 [.sc (.slice none 0 0)] H (fun v K => v = wantV [] ∧ K = H) :=
  VCall.argV (weak_one (u := roB []) fun w Z ρ y h => by cases h; exact .ro0) (parse_call [] H (by simp))
theorem len_call (ws : List (List UInt8)) (H : Heap) : VCall Tryd.prog 21 [wantV ws] H (fun v K => v = iV ws.length ∧ K = H) := by
  refine VCall.pure (by simp [nameless_wantV]) (nameless_sc _) ?_
  refine VCall.go Tryd.func21 rfl ?_
  repeat' (first | (with_reducible refine And.intro ?_ ?_) | ((with_reducible intro hc); (try simp only [leZ_eq, ltZ_eq, eqZ_eq, str_size, str_list, str_nil, List.toList_toArray, decide_eq_true_eq, decide_eq_false_iff_not, beq_iff_eq, bne_iff_ne, beq_eq_false_iff_ne, bne_eq_false_iff_eq, ne_eq, Bool.not_eq_true', Bool.not_eq_false', Bool.not_true, Bool.not_false, gt_iff_lt, ge_iff_le, Int.not_lt, Int.not_le, Decidable.not_not] at hc); (first | (exact absurd rfl hc) | (exact absurd trivial hc) | (exfalso; omega) | skip)) | (exact Is.mk rfl rfl) | ((conv => whnf); first | (with_reducible refine And.intro ?_ ?_) | (with_reducible intro hx) | (exact Is.mk rfl rfl) | (with_reducible apply Val.via) | (with_reducible apply ValH.via) | (refine ifB_intro (fun hc => ?_) (fun hc => ?_) <;> (try simp only [leZ_eq, ltZ_eq, eqZ_eq, str_size, str_list, str_nil, List.toList_toArray, decide_eq_true_eq, decide_eq_false_iff_not, beq_iff_eq, bne_iff_ne, beq_eq_false_iff_ne, bne_eq_false_iff_eq, ne_eq, Bool.not_eq_true', Bool.not_eq_false', Bool.not_true, Bool.not_false, gt_iff_lt, ge_iff_le, Int.not_lt, Int.not_le, Decidable.not_not] at hc) <;> (first | (exact absurd rfl hc) | (exact absurd trivial hc) | (exfalso; omega) | skip)) | (refine GAr.i64 (by omega) ?_) | ((refine GAr.i64w ?_); intro kw hk1 hk2) | (refine GAr.u8s (by omega) ?_) | (refine GAr.u8 ?_) | (refine GAr.u64s (by omega) ?_) | (refine GAr.u32s (by omega) ?_) | (refine GAr.u64 ?_) | (refine GAr.u32 ?_) | (refine GQuo.i64 (by omega) ?_) | (refine GRem.pos (by omega) ?_) | (with_reducible refine stopA ?_) | (refine Exists.intro _ (And.intro (by (first | exact vat_of rfl rfl rfl | rfl)) ?_)) | (refine GOp.drawn (by rfl) (by rfl) (Nat.le_of_ble_eq_true (by rfl)) (by rfl)) | (refine GOp.via (by rfl) ?_) | (refine GWP.drawY mixed _ (by kernel_rfl) (by rfl) ?_) | fail | (with_reducible refine stopO ?_) | (with_reducible refine stopE ?_) | (with_reducible refine stopD ?_) | (with_reducible refine stopW ?_) | (with_reducible refine stopG ?_) | (with_reducible refine stopC ?_) | (with_reducible refine stopR ?_)))
  all_goals exact Done'.mk rfl
theorem velemsG {H : Heap} {b n : Nat} {vs : List VV} (hg : H.get b = some (.opt vs)) (hv : vs.length = n) : velems 1 (.gs b n 1) H = some (n, vs) := by
  simp only [velems, hg]
  rw [if_pos ⟨by omega, trivial⟩]
theorem GOp'.growSX {P : Program} {o : Oper} {ts : List VV} {H : Heap} {K : VV → Heap → Prop} {s x : Operand} {sT xT : TypeId} {z bytes b n m : Nat} {d : TypeDesc} {l vs : List VV} (nm : Nat) (rs : List VV) (ho : o.op = .call ⟨.builtin .append, #[s, x], #[sT, xT]⟩) (h : SlTy P sT z bytes) (hx : P.underlying xT = some d) (hd : ∀ k, d ≠ .int k) (hs : veval ts s = .sl b 0 n (some n) z) (hl : velems z (veval ts x) (H.set b (.opt vs)) = some (m, l)) (h1 : l.all VV.one = true)
    (hg : H.get b = some (.cells true vs)) (hv : vs.length = n * z) (hb : (n + m) * bytes ≤ 140737488355328) (hm2 : n + m ≤ 4611686018427387904) (hrs : vs ++ l = rs) (hnm : n + m = nm) (k : K (.gs H.next nm z) ((H.del b).add (.opt rs))) : GOp' P o ts H K := by
  subst hrs hnm
  exact GOp'.growS ho h hx hd hs hl h1 hg hv hb hm2 k
theorem GOp'.growX {P : Program} {o : Oper} {ts : List VV} {H : Heap} {K : VV → Heap → Prop} {s x : Operand} {sT xT : TypeId} {z bytes b n m : Nat} {d : TypeDesc} {l vs : List VV} (nm : Nat) (rs : List VV) (ho : o.op = .call ⟨.builtin .append, #[s, x], #[sT, xT]⟩) (h : SlTy P sT z bytes) (hx : P.underlying xT = some d) (hd : ∀ k, d ≠ .int k) (hs : veval ts s = .gs b n z) (hl : velems z (veval ts x) H = some (m, l)) (h1 : l.all VV.one = true)
    (hg : H.get b = some (.opt vs)) (hv : vs.length = n * z) (hb : (n + m) * bytes ≤ 140737488355328) (hm2 : n + m ≤ 4611686018427387904) (hrs : vs ++ l = rs) (hnm : n + m = nm) (k : K (.gs H.next nm z) ((H.del b).add (.opt rs))) : GOp' P o ts H K := by
  subst hrs hnm
  exact GOp'.grow ho h hx hd hs hl h1 hg hv hb hm2 k
def midT (t : List UInt8) : List UInt8 := [120, 32, 115, 104, 97, 50, 53, 54, 45] ++ b64 t
def tabT (s : List UInt8) : List UInt8 := [9] ++ ownT s
theorem own_n (s : List UInt8) : 7 + (b64 s).length = (ownT s).length := by unfold ownT preB; simp; omega
theorem mid_n (s : List UInt8) : 9 + (b64 s).length = (midT s).length := by unfold midT; simp; omega
theorem tab_n (s : List UInt8) : 1 + (ownT s).length = (tabT s).length := by unfold tabT; simp; omega
theorem two_n (s t : List UInt8) : (midT t).length + (tabT s).length = (twoT s t).length := by
  show _ = (midT t ++ tabT s).length
  rw [List.length_append]
theorem two_e (s t : List UInt8) : (midT t).map bV ++ (tabT s).map bV = (twoT s t).map bV := by
  show _ = (midT t ++ tabT s).map bV
  rw [List.map_append]
end Go.Proofs.YtdgohabgjgdfeaaDoor

/- The law DigestOwn, walked. -/
namespace Go.Proofs.YtdgohabgjgdfeaaDoor
open Go Go.RowKit
set_option linter.unusedSimpArgs false
set_option maxRecDepth 100000
set_option maxHeartbeats 4000000
set_option linter.unusedVariables false
theorem digestOwn_walk (a b : List UInt8) : VCall Tryd.prog 4 [roB a, roB b] ⟨[], 0⟩ (fun v _ => v = .sc (.bool true)) := by
  by_cases hab : a.length ≤ 200 ∧ b.length ≤ 200
  · obtain ⟨ha, hb⟩ := hab
    have hs1 := fun H => sum_call a (by omega) H
    have hs2 := fun H => sum_call b (by omega) H
    have h1 : (sha a).length = 32 := sha_len a
    have h2 : (sha b).length = 32 := sha_len b
    have hma := fun ws H h h2 => meets_call ws a H h h2 (by omega)
    have hmb := fun ws H h h2 => meets_call ws b H h h2 (by omega)
    generalize sha a = s at *
    generalize sha b = t at *
    have hw1 := wants_own h1
    have hw2 := wants_two h1 h2
    have hl1 := ownT_len s
    have hl2 := twoT_len s t
    have hb1 := one_map s
    have hb2 := one_map t
    have h32 : (s.map bV).length = 32 := by rw [List.length_map, h1]
    have k32 : (t.map bV).length = 32 := by rw [List.length_map, h2]
    have hb64 := b64_len s
    have hc64 := b64_len t
    have hwS := fun (H : Heap) c hg => writeS_call (H := H) (b := 0) (n := 32) (c := c) (vs := s.map bV) s (by omega) hg rfl h1.symm
    have hwT := fun (H : Heap) c hg => writeS_call (H := H) (b := 1) (n := 32) (c := c) (vs := t.map bV) t (by omega) hg rfl h2.symm
    have hp1 : ∀ H, H.get 3 = some (.opt ((ownT s).map bV)) → VCall Tryd.prog 20 [.gs 3 (ownT s).length 1] H (fun v K => v = wantV [s] ∧ K = H) := fun H hg => by
      have := parseG_call (ownT s) (by omega) hg rfl rfl
      rwa [hw1] at this
    have hp2 : ∀ H, H.get 8 = some (.opt ((twoT s t).map bV)) → VCall Tryd.prog 20 [.gs 8 (twoT s t).length 1] H (fun v K => v = wantV [t, s] ∧ K = H) := fun H hg => by
      have := parseG_call (twoT s t) (by omega) hg rfl rfl
      rwa [hw2] at this
    have hM1 := fun H => hma [s] H (by simp [h1]) (by simp)
    have hM2 := fun H => hma [t, s] H (by simp [h1, h2]) (by simp)
    have hM3 := fun H => hmb [t, s] H (by simp [h1, h2]) (by simp)
    have hM4 := fun H => hmb [] H (by simp) (by simp)
    rw [show meetsB [s] s = true by simp [meetsB]] at hM1
    rw [show meetsB [t, s] s = true by simp [meetsB]] at hM2
    rw [show meetsB [t, s] t = true by simp [meetsB]] at hM3
    rw [show meetsB [] t = true from rfl] at hM4
    have hL1 := fun H => len_call [s] H
    have hL2 := fun H => len_call [t, s] H
    refine VCall.go Tryd.func4 rfl ?_
    repeat' (first | (with_reducible refine And.intro ?_ ?_) | ((with_reducible intro hc); (try simp only [leZ_eq, ltZ_eq, eqZ_eq, str_size, str_list, str_nil, List.toList_toArray, decide_eq_true_eq, decide_eq_false_iff_not, beq_iff_eq, bne_iff_ne, beq_eq_false_iff_ne, bne_eq_false_iff_eq, ne_eq, Bool.not_eq_true', Bool.not_eq_false', Bool.not_true, Bool.not_false, gt_iff_lt, ge_iff_le, Int.not_lt, Int.not_le, Decidable.not_not] at hc); (first | (exact absurd rfl hc) | (exact absurd trivial hc) | (exfalso; omega) | skip)) | (exact Is.mk rfl rfl) | ((conv => whnf); first | (with_reducible refine And.intro ?_ ?_) | (with_reducible intro hx) | (exact Is.mk rfl rfl) | (with_reducible apply Val.via) | (with_reducible apply ValH.via) | (refine ifB_intro (fun hc => ?_) (fun hc => ?_) <;> (try simp only [leZ_eq, ltZ_eq, eqZ_eq, str_size, str_list, str_nil, List.toList_toArray, decide_eq_true_eq, decide_eq_false_iff_not, beq_iff_eq, bne_iff_ne, beq_eq_false_iff_ne, bne_eq_false_iff_eq, ne_eq, Bool.not_eq_true', Bool.not_eq_false', Bool.not_true, Bool.not_false, gt_iff_lt, ge_iff_le, Int.not_lt, Int.not_le, Decidable.not_not] at hc) <;> (first | (exact absurd rfl hc) | (exact absurd trivial hc) | (exfalso; omega) | skip)) | (refine GAr.i64 (by omega) ?_) | ((refine GAr.i64w ?_); intro kw hk1 hk2) | (refine GAr.u8s (by omega) ?_) | (refine GAr.u8 ?_) | (refine GAr.u64s (by omega) ?_) | (refine GAr.u32s (by omega) ?_) | (refine GAr.u64 ?_) | (refine GAr.u32 ?_) | (refine GQuo.i64 (by omega) ?_) | (refine GRem.pos (by omega) ?_) | (with_reducible refine stopA ?_) | (refine Exists.intro _ (And.intro (by (first | exact vat_of rfl rfl rfl | rfl)) ?_)) | (refine GOp.drawn (by rfl) (by rfl) (Nat.le_of_ble_eq_true (by rfl)) (by rfl)) | (refine GOp.via (by rfl) ?_) | (refine GWP.drawY mixed _ (by kernel_rfl) (by rfl) ?_) | (first | (refine GCall.mk ((hwS _ _ rfl).mono ?_); rintro _ _ ⟨rfl, rfl⟩) | (refine GCall.mk ((hwT _ _ rfl).mono ?_); rintro _ _ ⟨rfl, rfl⟩) | (refine GCall.mk ((lives38_call _).mono ?_); rintro _ _ ⟨rfl, rfl⟩) | (refine GOp.stA (vs := s.map bV) (by rfl) (by rfl) (by rfl) (by rfl) (by rfl) h32 hb1 ?_) | (refine GOp.stA (vs := t.map bV) (by rfl) (by rfl) (by rfl) (by rfl) (by rfl) k32 hb2 ?_) | (refine GCall.mk ((hs1 _).mono ?_); rintro _ _ ⟨rfl, rfl⟩) | (refine GCall.mk ((hs2 _).mono ?_); rintro _ _ ⟨rfl, rfl⟩)) | (with_reducible refine stopO ?_) | (with_reducible refine stopE ?_) | (with_reducible refine stopD ?_) | (with_reducible refine stopW ?_) | (with_reducible refine stopG ?_) | (with_reducible refine stopC ?_) | (with_reducible refine stopR ?_)))
    all_goals (first | omega | skip)
    refine GOp'.growSX (ownT s).length ((ownT s).map bV) rfl sty_b (d := .slice 5) Tryd.underlying22 (by intro k h; cases h) rfl (velems_roB (b64 s) _) (one_map _) rfl rfl (by omega) (by omega) rfl (own_n s) ?_
    repeat' (first | (with_reducible refine And.intro ?_ ?_) | ((with_reducible intro hc); (try simp only [leZ_eq, ltZ_eq, eqZ_eq, str_size, str_list, str_nil, List.toList_toArray, decide_eq_true_eq, decide_eq_false_iff_not, beq_iff_eq, bne_iff_ne, beq_eq_false_iff_ne, bne_eq_false_iff_eq, ne_eq, Bool.not_eq_true', Bool.not_eq_false', Bool.not_true, Bool.not_false, gt_iff_lt, ge_iff_le, Int.not_lt, Int.not_le, Decidable.not_not] at hc); (first | (exact absurd rfl hc) | (exact absurd trivial hc) | (exfalso; omega) | skip)) | (exact Is.mk rfl rfl) | ((conv => whnf); first | (with_reducible refine And.intro ?_ ?_) | (with_reducible intro hx) | (exact Is.mk rfl rfl) | (with_reducible apply Val.via) | (with_reducible apply ValH.via) | (refine ifB_intro (fun hc => ?_) (fun hc => ?_) <;> (try simp only [leZ_eq, ltZ_eq, eqZ_eq, str_size, str_list, str_nil, List.toList_toArray, decide_eq_true_eq, decide_eq_false_iff_not, beq_iff_eq, bne_iff_ne, beq_eq_false_iff_ne, bne_eq_false_iff_eq, ne_eq, Bool.not_eq_true', Bool.not_eq_false', Bool.not_true, Bool.not_false, gt_iff_lt, ge_iff_le, Int.not_lt, Int.not_le, Decidable.not_not] at hc) <;> (first | (exact absurd rfl hc) | (exact absurd trivial hc) | (exfalso; omega) | skip)) | (refine GAr.i64 (by omega) ?_) | ((refine GAr.i64w ?_); intro kw hk1 hk2) | (refine GAr.u8s (by omega) ?_) | (refine GAr.u8 ?_) | (refine GAr.u64s (by omega) ?_) | (refine GAr.u32s (by omega) ?_) | (refine GAr.u64 ?_) | (refine GAr.u32 ?_) | (refine GQuo.i64 (by omega) ?_) | (refine GRem.pos (by omega) ?_) | (with_reducible refine stopA ?_) | (refine Exists.intro _ (And.intro (by (first | exact vat_of rfl rfl rfl | rfl)) ?_)) | (refine GOp.drawn (by rfl) (by rfl) (Nat.le_of_ble_eq_true (by rfl)) (by rfl)) | (refine GOp.via (by rfl) ?_) | (refine GWP.drawY mixed _ (by kernel_rfl) (by rfl) ?_) | (refine GCall.mk ((hwT _ _ rfl).mono ?_); rintro _ _ ⟨rfl, rfl⟩) | (with_reducible refine stopO ?_) | (with_reducible refine stopE ?_) | (with_reducible refine stopD ?_) | (with_reducible refine stopW ?_) | (with_reducible refine stopG ?_) | (with_reducible refine stopC ?_) | (with_reducible refine stopR ?_)))
    refine GOp'.growSX (midT t).length ((midT t).map bV) rfl sty_b (d := .slice 5) Tryd.underlying22 (by intro k h; cases h) rfl (velems_roB (b64 t) _) (one_map _) rfl rfl (by omega) (by omega) rfl (mid_n t) ?_
    repeat' (first | (with_reducible refine And.intro ?_ ?_) | ((with_reducible intro hc); (try simp only [leZ_eq, ltZ_eq, eqZ_eq, str_size, str_list, str_nil, List.toList_toArray, decide_eq_true_eq, decide_eq_false_iff_not, beq_iff_eq, bne_iff_ne, beq_eq_false_iff_ne, bne_eq_false_iff_eq, ne_eq, Bool.not_eq_true', Bool.not_eq_false', Bool.not_true, Bool.not_false, gt_iff_lt, ge_iff_le, Int.not_lt, Int.not_le, Decidable.not_not] at hc); (first | (exact absurd rfl hc) | (exact absurd trivial hc) | (exfalso; omega) | skip)) | (exact Is.mk rfl rfl) | ((conv => whnf); first | (with_reducible refine And.intro ?_ ?_) | (with_reducible intro hx) | (exact Is.mk rfl rfl) | (with_reducible apply Val.via) | (with_reducible apply ValH.via) | (refine ifB_intro (fun hc => ?_) (fun hc => ?_) <;> (try simp only [leZ_eq, ltZ_eq, eqZ_eq, str_size, str_list, str_nil, List.toList_toArray, decide_eq_true_eq, decide_eq_false_iff_not, beq_iff_eq, bne_iff_ne, beq_eq_false_iff_ne, bne_eq_false_iff_eq, ne_eq, Bool.not_eq_true', Bool.not_eq_false', Bool.not_true, Bool.not_false, gt_iff_lt, ge_iff_le, Int.not_lt, Int.not_le, Decidable.not_not] at hc) <;> (first | (exact absurd rfl hc) | (exact absurd trivial hc) | (exfalso; omega) | skip)) | (refine GAr.i64 (by omega) ?_) | ((refine GAr.i64w ?_); intro kw hk1 hk2) | (refine GAr.u8s (by omega) ?_) | (refine GAr.u8 ?_) | (refine GAr.u64s (by omega) ?_) | (refine GAr.u32s (by omega) ?_) | (refine GAr.u64 ?_) | (refine GAr.u32 ?_) | (refine GQuo.i64 (by omega) ?_) | (refine GRem.pos (by omega) ?_) | (with_reducible refine stopA ?_) | (refine Exists.intro _ (And.intro (by (first | exact vat_of rfl rfl rfl | rfl)) ?_)) | (refine GOp.drawn (by rfl) (by rfl) (Nat.le_of_ble_eq_true (by rfl)) (by rfl)) | (refine GOp.via (by rfl) ?_) | (refine GWP.drawY mixed _ (by kernel_rfl) (by rfl) ?_) | fail | (with_reducible refine stopO ?_) | (with_reducible refine stopE ?_) | (with_reducible refine stopD ?_) | (with_reducible refine stopW ?_) | (with_reducible refine stopG ?_) | (with_reducible refine stopC ?_) | (with_reducible refine stopR ?_)))
    refine GOp'.growSX (tabT s).length ((tabT s).map bV) rfl sty_b (d := .slice 5) Tryd.underlying22 (by intro k h; cases h) rfl (velemsG (vs := (ownT s).map bV) rfl (by simp)) (one_map _) rfl rfl (by omega) (by omega) rfl (tab_n s) ?_
    repeat' (first | (with_reducible refine And.intro ?_ ?_) | ((with_reducible intro hc); (try simp only [leZ_eq, ltZ_eq, eqZ_eq, str_size, str_list, str_nil, List.toList_toArray, decide_eq_true_eq, decide_eq_false_iff_not, beq_iff_eq, bne_iff_ne, beq_eq_false_iff_ne, bne_eq_false_iff_eq, ne_eq, Bool.not_eq_true', Bool.not_eq_false', Bool.not_true, Bool.not_false, gt_iff_lt, ge_iff_le, Int.not_lt, Int.not_le, Decidable.not_not] at hc); (first | (exact absurd rfl hc) | (exact absurd trivial hc) | (exfalso; omega) | skip)) | (exact Is.mk rfl rfl) | ((conv => whnf); first | (with_reducible refine And.intro ?_ ?_) | (with_reducible intro hx) | (exact Is.mk rfl rfl) | (with_reducible apply Val.via) | (with_reducible apply ValH.via) | (refine ifB_intro (fun hc => ?_) (fun hc => ?_) <;> (try simp only [leZ_eq, ltZ_eq, eqZ_eq, str_size, str_list, str_nil, List.toList_toArray, decide_eq_true_eq, decide_eq_false_iff_not, beq_iff_eq, bne_iff_ne, beq_eq_false_iff_ne, bne_eq_false_iff_eq, ne_eq, Bool.not_eq_true', Bool.not_eq_false', Bool.not_true, Bool.not_false, gt_iff_lt, ge_iff_le, Int.not_lt, Int.not_le, Decidable.not_not] at hc) <;> (first | (exact absurd rfl hc) | (exact absurd trivial hc) | (exfalso; omega) | skip)) | (refine GAr.i64 (by omega) ?_) | ((refine GAr.i64w ?_); intro kw hk1 hk2) | (refine GAr.u8s (by omega) ?_) | (refine GAr.u8 ?_) | (refine GAr.u64s (by omega) ?_) | (refine GAr.u32s (by omega) ?_) | (refine GAr.u64 ?_) | (refine GAr.u32 ?_) | (refine GQuo.i64 (by omega) ?_) | (refine GRem.pos (by omega) ?_) | (with_reducible refine stopA ?_) | (refine Exists.intro _ (And.intro (by (first | exact vat_of rfl rfl rfl | rfl)) ?_)) | (refine GOp.drawn (by rfl) (by rfl) (Nat.le_of_ble_eq_true (by rfl)) (by rfl)) | (refine GOp.via (by rfl) ?_) | (refine GWP.drawY mixed _ (by kernel_rfl) (by rfl) ?_) | fail | (with_reducible refine stopO ?_) | (with_reducible refine stopE ?_) | (with_reducible refine stopD ?_) | (with_reducible refine stopW ?_) | (with_reducible refine stopG ?_) | (with_reducible refine stopC ?_) | (with_reducible refine stopR ?_)))
    refine GOp'.growX (twoT s t).length ((twoT s t).map bV) rfl sty_b (d := .slice 5) Tryd.underlying22 (by intro k h; cases h) rfl (velemsG (vs := (tabT s).map bV) rfl (by simp)) (one_map _) (vs := (midT t).map bV) rfl (by simp) (by have := two_n s t; omega) (by have := two_n s t; omega) (two_e s t) (two_n s t) ?_
    repeat' (first | (with_reducible refine And.intro ?_ ?_) | ((with_reducible intro hc); (try simp only [leZ_eq, ltZ_eq, eqZ_eq, str_size, str_list, str_nil, List.toList_toArray, decide_eq_true_eq, decide_eq_false_iff_not, beq_iff_eq, bne_iff_ne, beq_eq_false_iff_ne, bne_eq_false_iff_eq, ne_eq, Bool.not_eq_true', Bool.not_eq_false', Bool.not_true, Bool.not_false, gt_iff_lt, ge_iff_le, Int.not_lt, Int.not_le, Decidable.not_not] at hc); (first | (exact absurd rfl hc) | (exact absurd trivial hc) | (exfalso; omega) | skip)) | (exact Is.mk rfl rfl) | ((conv => whnf); first | (with_reducible refine And.intro ?_ ?_) | (with_reducible intro hx) | (exact Is.mk rfl rfl) | (with_reducible apply Val.via) | (with_reducible apply ValH.via) | (refine ifB_intro (fun hc => ?_) (fun hc => ?_) <;> (try simp only [leZ_eq, ltZ_eq, eqZ_eq, str_size, str_list, str_nil, List.toList_toArray, decide_eq_true_eq, decide_eq_false_iff_not, beq_iff_eq, bne_iff_ne, beq_eq_false_iff_ne, bne_eq_false_iff_eq, ne_eq, Bool.not_eq_true', Bool.not_eq_false', Bool.not_true, Bool.not_false, gt_iff_lt, ge_iff_le, Int.not_lt, Int.not_le, Decidable.not_not] at hc) <;> (first | (exact absurd rfl hc) | (exact absurd trivial hc) | (exfalso; omega) | skip)) | (refine GAr.i64 (by omega) ?_) | ((refine GAr.i64w ?_); intro kw hk1 hk2) | (refine GAr.u8s (by omega) ?_) | (refine GAr.u8 ?_) | (refine GAr.u64s (by omega) ?_) | (refine GAr.u32s (by omega) ?_) | (refine GAr.u64 ?_) | (refine GAr.u32 ?_) | (refine GQuo.i64 (by omega) ?_) | (refine GRem.pos (by omega) ?_) | (with_reducible refine stopA ?_) | (refine Exists.intro _ (And.intro (by (first | exact vat_of rfl rfl rfl | rfl)) ?_)) | (refine GOp.drawn (by rfl) (by rfl) (Nat.le_of_ble_eq_true (by rfl)) (by rfl)) | (refine GOp.via (by rfl) ?_) | (refine GWP.drawY mixed _ (by kernel_rfl) (by rfl) ?_) | (first | (refine GCall.mk ((hp1 _ rfl).mono ?_); rintro _ _ ⟨rfl, rfl⟩) | (refine GCall.mk ((hp2 _ rfl).mono ?_); rintro _ _ ⟨rfl, rfl⟩) | (refine GCall.mk ((parseN_call _).mono ?_); rintro _ _ ⟨rfl, rfl⟩) | (refine GCall.mk ((hL1 _).mono ?_); rintro _ _ ⟨rfl, rfl⟩) | (refine GCall.mk ((hL2 _).mono ?_); rintro _ _ ⟨rfl, rfl⟩) | (refine GCall.mk ((hM1 _).mono ?_); rintro _ _ ⟨rfl, rfl⟩) | (refine GCall.mk ((hM2 _).mono ?_); rintro _ _ ⟨rfl, rfl⟩) | (refine GCall.mk ((hM3 _).mono ?_); rintro _ _ ⟨rfl, rfl⟩) | (refine GCall.mk ((hM4 _).mono ?_); rintro _ _ ⟨rfl, rfl⟩)) | (with_reducible refine stopO ?_) | (with_reducible refine stopE ?_) | (with_reducible refine stopD ?_) | (with_reducible refine stopW ?_) | (with_reducible refine stopG ?_) | (with_reducible refine stopC ?_) | (with_reducible refine stopR ?_)))
    all_goals exact Done'.mk rfl
  · refine VCall.go Tryd.func4 rfl ?_
    repeat' (first | (with_reducible refine And.intro ?_ ?_) | ((with_reducible intro hc); (try simp only [leZ_eq, ltZ_eq, eqZ_eq, str_size, str_list, str_nil, List.toList_toArray, decide_eq_true_eq, decide_eq_false_iff_not, beq_iff_eq, bne_iff_ne, beq_eq_false_iff_ne, bne_eq_false_iff_eq, ne_eq, Bool.not_eq_true', Bool.not_eq_false', Bool.not_true, Bool.not_false, gt_iff_lt, ge_iff_le, Int.not_lt, Int.not_le, Decidable.not_not] at hc); (first | (exact absurd rfl hc) | (exact absurd trivial hc) | (exfalso; omega) | skip)) | (exact Is.mk rfl rfl) | ((conv => whnf); first | (with_reducible refine And.intro ?_ ?_) | (with_reducible intro hx) | (exact Is.mk rfl rfl) | (with_reducible apply Val.via) | (with_reducible apply ValH.via) | (refine ifB_intro (fun hc => ?_) (fun hc => ?_) <;> (try simp only [leZ_eq, ltZ_eq, eqZ_eq, str_size, str_list, str_nil, List.toList_toArray, decide_eq_true_eq, decide_eq_false_iff_not, beq_iff_eq, bne_iff_ne, beq_eq_false_iff_ne, bne_eq_false_iff_eq, ne_eq, Bool.not_eq_true', Bool.not_eq_false', Bool.not_true, Bool.not_false, gt_iff_lt, ge_iff_le, Int.not_lt, Int.not_le, Decidable.not_not] at hc) <;> (first | (exact absurd rfl hc) | (exact absurd trivial hc) | (exfalso; omega) | skip)) | (refine GAr.i64 (by omega) ?_) | ((refine GAr.i64w ?_); intro kw hk1 hk2) | (refine GAr.u8s (by omega) ?_) | (refine GAr.u8 ?_) | (refine GAr.u64s (by omega) ?_) | (refine GAr.u32s (by omega) ?_) | (refine GAr.u64 ?_) | (refine GAr.u32 ?_) | (refine GQuo.i64 (by omega) ?_) | (refine GRem.pos (by omega) ?_) | (with_reducible refine stopA ?_) | (refine Exists.intro _ (And.intro (by rfl) ?_)) | (refine GOp.drawn (by rfl) (by rfl) (Nat.le_of_ble_eq_true (by rfl)) (by rfl)) | (refine GOp.via (by rfl) ?_) | (refine GWP.drawY mixed _ (by kernel_rfl) (by rfl) ?_) | (refine GCall.mk ((lives38_call _).mono ?_); rintro _ _ ⟨rfl, rfl⟩) | (with_reducible refine stopO ?_) | (with_reducible refine stopE ?_) | (with_reducible refine stopD ?_) | (with_reducible refine stopW ?_) | (with_reducible refine stopG ?_) | (with_reducible refine stopC ?_) | (with_reducible refine stopR ?_)))
    all_goals (first | omega | exact Done'.mk rfl)
end Go.Proofs.YtdgohabgjgdfeaaDoor

/- PROVED: for every input cordonlaw38.DigestOwn returns true, and its arguments read as before; the listed tables hold what the program's text lays (the card ties them). -/
namespace Go.Proofs.YtdgohabgjgdfeaaDoor.lawDigestOwn
open Go.ChangeShapes Go.WideShapes Go.ChangeAt Go.RowKit Go.Joins
open Go.ChangeMaps (open_string shut_string)
set_option linter.unusedSimpArgs false
set_option linter.unusedVariables false

theorem own : ownKnob Tryd.prog.godebug = none := by kernel_rfl
theorem laidOut : laidOutB Tryd.prog = true := by kernel_rfl
theorem u8cells : Tryd.prog.cellsOf 5 = 1 := by kernel_rfl

set_option maxRecDepth 100000 in
theorem contract (H : Type) (enc : TypeId × Value → H) (W : World) (base : Nat) (args : Array Value) (ds gs : List (DataW H)) (before : List MemPlace)
    (hval : ∀ (j : Nat) t v, Tryd.f4.params[j]? = some t → args[j]? = some v → Value.okWide Tryd.prog W .any base t v)
    (hW : DataW.Whole enc Tryd.prog Tryd.f4.params.toList Rows.digestOwnSpec.vars false W args.toList ds gs before) (hL : laidMetH Tryd.prog Rows.digestOwnRow.laid W) :
    Calls Tryd.prog 4 args W fun e W' => ∃ v, e = .returned v ∧ Rows.digestOwnSpec.post enc Tryd.prog Tryd.f4 false true false false W args v W' := by
  have hW' := hW
  obtain ⟨p, q, hA0, hV, rfl, hfz, hnd⟩ := hW
  have hA : DataW.TrodAll enc Tryd.prog W 0 (fun _ => true) true Tryd.f4.params.toList args.toList ds p := hA0
  rw [Tryd.params4] at hA hval
  obtain ⟨v0, vs0, d0, ds0, p0, q0, hargs, rfl, rfl, h0, r0⟩ := trodAll_cons hA
  obtain ⟨v1, vs1, d1, ds1, p1, q1, rfl, rfl, rfl, h1, r1⟩ := trodAll_cons r0
  obtain ⟨rfl, rfl, rfl⟩ := trodAll_nil r1
  obtain rfl : args = #[v0, v1] := by cases args; simp_all
  obtain ⟨rfl, rfl⟩ := trodVars_none hV
  have k0 := h0
  have lt0 : ∀ x ∈ p0, x.block < W.heap.size := by obtain ⟨m, hm⟩ := k0; exact DataW.trod_lt m _ _ _ hm
  have k1 := h1
  have lt1 : ∀ x ∈ p1, x.block < W.heap.size := by obtain ⟨m, hm⟩ := k1; exact DataW.trod_lt m _ _ _ hm
  have hwalk : Calls Tryd.prog 4 #[v0, v1] W fun e w' => e = .returned (.bool true) ∧ Below W.heap.size W w' := by
    obtain ⟨l0, hl00, hr0⟩ := open_roB Tryd.underlying22 Tryd.underlying5 u8cells (hval 0 22 v0 rfl rfl) h0
    have hl0 : l0.length ≤ 9223372036854775807 := by unfold maxLen at hl00; exact hl00
    obtain ⟨l1, hl10, hr1⟩ := open_roB Tryd.underlying22 Tryd.underlying5 u8cells (hval 1 22 v1 rfl rfl) h1
    have hl1 : l1.length ≤ 9223372036854775807 := by unfold maxLen at hl10; exact hl10
    exact VCall.law (digestOwn_walk l0 l1) W #[v0, v1] (Pw.cons hr0 (Pw.cons hr1 Pw.nil)) (fun _ _ _ _ _ _ => trivial)
  clear hA0
  refine hwalk.mono fun e W' ⟨he, bel⟩ => ?_
  subst he
  exact ⟨_, rfl, _, _, _, [], _, [], hW', trodAll_mk1 (shut_bool Tryd.underlying4 _), (trodAll_cons_mk (Below.trod laidOut (by kernel_rfl) (of_decide_eq_true (by kernel_rfl)) k0 bel lt0) (trodAll_cons_mk (Below.trod laidOut (by kernel_rfl) (of_decide_eq_true (by kernel_rfl)) k1 bel lt1) trodAll_mk0)), rfl, bel.frame _, fun h => by cases h⟩

/-- A datum's cells. -/
def cellsOfData : DataW Unit → Array Value
  | .agg l => (l.flatMap fun x => match x with
    | .lit (.int k n) => [Value.int k n]
    | .agg m => m.map fun y => match y with
      | .lit (.int k n) => Value.int k n
      | _ => undef
    | _ => [undef]).toArray
  | _ => #[]
def setRow (d : DataW Unit) : Obj → Obj
  | .cells _ t frozen => .cells (cellsOfData d) t frozen
  | o => o
/-- A world for the witness: the settled one, the tables holding what their initialisers lay. -/
noncomputable def laidWorld (os : Os) : World :=
  { World.holding Tryd.prog os ⟨#[], #[], []⟩ with heap := (((World.holding Tryd.prog os ⟨#[], #[], []⟩).heap.modify 2 (setRow Rows.laid_unicode_utf8_acceptRanges)).modify 1 (setRow Rows.laid_unicode_utf8_first)) }
theorem laid_met (os : Os) : laidMet Tryd.prog Rows.digestOwnRow.laid ((laidWorld os).forCall (fun _ _ => 0) ⟨#[], #[.slice none 0 0, .slice none 0 0], []⟩).memory :=
  laidMet_of_run' 8 (by kernel_rfl) (by kernel_rfl)
theorem reads (os : Os) {H : Type} (enc : TypeId × Value → H) : ∃ places, DataW.whole enc Tryd.prog ((laidWorld os).forCall (fun _ _ => 0) ⟨#[], #[.slice none 0 0, .slice none 0 0], []⟩).memory Tryd.f4.params.toList Rows.digestOwnSpec.vars false (#[.slice none 0 0, .slice none 0 0] : Array Value).toList 8 = some ([.nil, .nil], [], places) :=
  ⟨[], by kernel_rfl⟩

set_option maxRecDepth 100000 in
theorem lifted (os : Os) (started : os.Started) (H : Type) (enc : TypeId × Value → H) (F : Stop.Interp) :
    ReturnsInHanded {} Tryd.checked os 4 .any ((OpenSpec.ofChange Rows.digestOwnSpec).preRow enc Tryd.prog Tryd.f4 Rows.digestOwnRow.domain false Rows.digestOwnRow.laid) (((OpenSpec.ofChange Rows.digestOwnSpec).at F).post enc Tryd.prog Tryd.f4 false true false false) := by
  obtain ⟨places, hx⟩ := reads os enc
  refine returnsInHanded_of_row (C := Tryd.checked) (s := OpenSpec.ofChange Rows.digestOwnSpec) own started (by kernel_rfl) Tryd.func4
    (witness_row_at (enc := enc) (C := Tryd.checked) false (laidWorld os) #[.slice none 0 0, .slice none 0 0] rfl (by kernel_rfl) (by kernel_rfl) (by kernel_rfl)
      (OpenSpec.preRow_of_cond 8 hx (by kernel_rfl) (fun k hk => by cases hk) (by kernel_rfl) (laid_met os))) ?_
  intro W base args ds gs before hval hW _ _ _ hL _ _
  exact contract H enc W base args ds gs before hval hW hL

theorem said : Rows.DigestOwnSaid :=
  OpenClaim.holds_of_cond 4 Tryd.f4 rfl rfl rfl rfl rfl rfl rfl ⟨rfl, rfl, rfl, rfl, rfl⟩ rfl rfl rfl rfl rfl (by kernel_rfl) Tryd.func4 (by kernel_rfl)
    (of_decide_eq_true (by kernel_rfl)) (by unfold Func.isWrapper; first | (rw [if_pos (by decide +kernel)]; kernel_rfl) | (rw [if_neg (by decide +kernel)]; exact ⟨rfl, rfl⟩))
    (fun os started H enc _ F => by rw [OpenClaim.pre_eq_preRow]; exact lifted os started H enc F)
theorem plain (f : FuncId) (fn : Func) (hf : Tryd.pinned.checked.prog.funcNamed "cordon/cordonlaw38.DigestOwn" = some f) (hfn : Tryd.pinned.checked.prog.funcs[f]? = some fn) :
    false = Tryd.pinned.checked.prog.looks [] ∧ ∀ (j : Nat) t, fn.params[j]? = some t → Tryd.pinned.checked.prog.wantsStandIn t = false := by
  obtain rfl : f = 4 := Option.some.inj ((show Tryd.prog.funcNamed "cordon/cordonlaw38.DigestOwn" = some 4 by kernel_rfl).symm.trans hf) |>.symm
  obtain rfl : fn = Tryd.f4 := (Option.some.inj (Tryd.func4.symm.trans hfn)).symm
  refine ⟨by kernel_rfl, fun j t ht => ?_⟩
  rw [Tryd.params4] at ht
  have : t = 22 := by
    have hm := Array.mem_of_getElem? ht
    simp at hm
    omega
  rcases this with rfl
  · exact (show Tryd.prog.wantsStandIn 22 = false by kernel_rfl)
/-- The card. -/
theorem card : Rows.DigestOwnCardSaid :=
  Claim7.holds_tied_plain_at .later [] _ _ _ _ said (fun _ h => by cases h) (by kernel_rfl) (fun _ h => by cases h) digestOwn_row_tie rfl ⟨rfl, rfl⟩ (by kernel_rfl) rfl plain (by kernel_rfl)
#print axioms card
end Go.Proofs.YtdgohabgjgdfeaaDoor.lawDigestOwn

