import Derived.Shelf.Bytes.SlIndexWhole
import Derived.Test.YtmmjgbdihgdekaaDoorProg
import Derived.Test.YtmmjgbdihgdekaaDoorI2
/-
  DERIVED: THE SHELF's CONTRACTS AT THIS DUMP, IN PLAIN WORDS (tools/lay-plain.mjs out of 'TrydIdx.lean', which tools/lay-shelf.mjs wrote): THE SAME DECLARATIONS UNDER THE SAME NAMES: 'import', 'namespace', 'open', 'def', 'theorem' AND NOTHING ELSE: no command of the shelf's: FOR A HAND-IN. Each laying: the table of numbers ('.._ren') and one theorem, a field a fact of the dump's own or the kernel's comparison; each contract: ONE APPLICATION.
-/
namespace Go.Proofs
open Go.Shelf
def Tryd.lays185_ren : Go.Shelf.Ren := ⟨fun | 185 => 149 | 187 => 133 | 115 => 140 | 253 => 181 | 224 => 182 | 254 => 183 | 255 => 164 | 291 => 209 | n => n, fun | 37 => 22 | 3 => 3 | 4 => 4 | 0 => 0 | 5 => 5 | 46 => 88 | 9 => 9 | 146 => 222 | 51 => 109 | n => n, fun | 1 => 0 | n => n⟩
theorem Tryd.lays185 : Go.Proofs.Lays.n185 Tryd.prog Tryd.lays185_ren := {
  mixed := by kernel_rfl
  f115 := Tryd.func140.trans (congrArg some (by kernel_rfl))
  f185 := Tryd.func149.trans (congrArg some (by kernel_rfl))
  f187 := Tryd.func133.trans (congrArg some (by kernel_rfl))
  f224 := Tryd.func182.trans (congrArg some (by kernel_rfl))
  f253 := Tryd.func181.trans (congrArg some (by kernel_rfl))
  f254 := Tryd.func183.trans (congrArg some (by kernel_rfl))
  f255 := Tryd.func164.trans (congrArg some (by kernel_rfl))
  f291 := Tryd.func209.trans (congrArg some (by kernel_rfl))
  t0 := Tryd.underlying0
  a0 := Tryd.isAgg0
  z0 := Tryd.sizeOf0
  v0 := Tryd.zeroValue0
  t3 := Tryd.underlying3
  a3 := Tryd.isAgg3
  z3 := Tryd.sizeOf3
  v3 := Tryd.zeroValue3
  t4 := Tryd.underlying4
  a4 := Tryd.isAgg4
  z4 := Tryd.sizeOf4
  v4 := Tryd.zeroValue4
  t5 := Tryd.underlying5
  a5 := Tryd.isAgg5
  z5 := Tryd.sizeOf5
  v5 := Tryd.zeroValue5
  t9 := Tryd.underlying9
  a9 := Tryd.isAgg9
  z9 := Tryd.sizeOf9
  v9 := Tryd.zeroValue9
  t37 := Tryd.underlying22
  a37 := Tryd.isAgg22
  z37 := Tryd.sizeOf22
  v37 := Tryd.zeroValue22
  t46 := Tryd.underlying88
  a46 := Tryd.isAgg88
  z46 := Tryd.sizeOf88
  v46 := Tryd.zeroValue88
  t51 := Tryd.underlying109
  a51 := Tryd.isAgg109
  z51 := Tryd.sizeOf109
  v51 := Tryd.zeroValue109
  t146 := Tryd.underlying222
  a146 := Tryd.isAgg222
  z146 := Tryd.sizeOf222
  v146 := Tryd.zeroValue222
  g1 := by kernel_rfl }
end Go.Proofs

/- bytes.Replace, over what Index and Count do, walked. -/
namespace Go.Proofs.YtmmjgbdihgdekaaDoor
open Go Go.RowKit
set_option linter.unusedSimpArgs false
set_option linter.unusedVariables false
set_option maxRecDepth 100000
set_option maxHeartbeats 16000000
theorem GOp'.weakH {P : Program} {o : Oper} {ts : List VV} {H H' : Heap} {v u : VV} {K : VV → Heap → Prop} (h : vop P o ts H = some (v, H')) (hw : ∀ (B : World) (M : Nat → Prop) (w : World) (Z : Nat → Prop) (ρ : Nat → Option (Nat × Nat)) (y : Value), Rel B M Z ρ H' w → VRel w Z ρ v y → VRel w Z ρ u y) (k : K u H') : GOp' P o ts H K := ⟨⟨fun B M Z ρ a w rr KK QE h1 h2 h3 => VOne.plain h B M Z ρ a w rr KK QE h1 h2 fun v' v2 H2 Z' ρ' w' e e1 r1 v1 => by
  obtain ⟨rfl, rfl⟩ := e
  exact h3 v' u _ Z' ρ' w' k e1 r1 (hw _ _ _ _ _ _ r1 v1)⟩⟩
theorem GOp'.mkB {o : Oper} {ts : List VV} {H : Heap} {K : VV → Heap → Prop} {a x : Operand} {z : Int} {L : Nat} (ho : o.op = .makeSlice 22 a x) (ha : veval ts a = .sc (.int .i64 z)) (hx : veval ts x = .sc (.int .i64 z)) (hz : z = (L : Int)) (hL : L ≤ 140737488355328) (k : K (.sl H.next 0 L none 1) (H.add (.cells true (List.replicate L (bV 0))))) : GOp' Tryd.prog o ts H K := by
  subst hz
  have hm : vmakeSlice Tryd.prog 22 (veval ts a) (veval ts x) H = some (.sl H.next 0 L (some L) 1, H.add (.cells true (List.replicate L (bV 0)))) := by
    rw [ha, hx]
    exact vmake_u8 hL
  refine GOp'.weakH (vop_make ho hm) (fun B M w Z ρ y hr h => ?_) k
  cases h with
  | sl hk hn hc hz =>
    have hg : (H.add (.cells true (List.replicate L (bV 0)))).get H.next = some (.cells true (List.replicate L (bV 0))) := by simp [Heap.add, Heap.get, hget_cons]
    obtain ⟨k', N', o', q1, q2, ⟨cs, t, fr, q3, q4, q5, _⟩, _⟩ := hr.objC hg rfl
    rw [hk] at q1
    injection q1 with q1
    injection q1 with q1 q1'
    subst q1 q1'
    have hle : L ≤ cs.size := by
      by_cases h0 : L = 0
      · omega
      · obtain ⟨c, hc2, _⟩ := q5 (L - 1) (bV 0) (by rw [List.getElem?_replicate, if_pos (by omega)])
        have := (List.getElem?_eq_some_iff.1 hc2).1
        simp at this
        omega
    refine .sl hk hn (fun _ e => by cases e) (fun _ => ?_)
    rw [hc L rfl]
    omega
theorem GOp'.slW {P : Program} {o : Oper} {ts : List VV} {H : Heap} {K : VV → Heap → Prop} {t e : TypeId} {x lo : Operand} {b n w : Nat} {z : Int} {k : IntKind} (ho : o.op = .slice t x (some lo) none none) (hu : P.underlying t = some (.slice e)) (hz : vsize P e = some 1) (hx : veval ts x = .sl b 0 n none 1) (hl : veval ts lo = .sc (.int k z)) (hw : z = (w : Int)) (hwn : w < n) (k : K (.sl b w (n - w) none 1) H) : GOp' P o ts H K :=
  GOp'.slR ho hu hz hx hl hw (by omega) fun u hu => by
    rcases hu with ⟨_, rfl⟩ | ⟨e, _⟩
    · exact k
    · omega
theorem GOp'.slV0 {o : Oper} {ts : List VV} {H : Heap} {K : VV → Heap → Prop} {t e : TypeId} {x lo : Operand} {b n : Nat} {z : Int} {k : IntKind} (ho : o.op = .slice t x (some lo) none none) (hu : (Tryd.prog).underlying t = some (.slice e)) (hz : vsize Tryd.prog e = some 1) (hx : veval ts x = .sl b 0 n none 1) (hl : veval ts lo = .sc (.int k z)) (hw : z = (n : Int)) (hn : 0 < n) (k : K (.ro 0 []) H) : GOp' Tryd.prog o ts H K :=
  GOp'.slE (z := 1) (l := n) ho hu hz hx (by
    show vbounds n n (some (veval ts lo)) none none = _
    rw [hl, vb_l ⟨by omega, by omega⟩, hw, Int.toNat_natCast]) hn k
theorem nameless_buf (d : List UInt8) (n : Nat) : ∀ v ∈ d.map bV ++ List.replicate n (bV 0), Nameless v := fun v hv => by
  rcases List.mem_append.1 hv with h | h
  · exact nameless_map nameless_bV d v h
  · rw [List.eq_of_mem_replicate h]
    exact nameless_bV 0
theorem buf_next (d x : List UInt8) (n : Nat) : (d ++ x).map bV ++ (List.replicate (n - d.length) (bV 0)).drop x.length = (d ++ x).map bV ++ List.replicate (n - (d ++ x).length) (bV 0) := by
  rw [List.drop_replicate, List.length_append, Nat.sub_sub]
theorem buf_next2 (d x y : List UInt8) (n : Nat) : (d ++ x ++ y).map bV ++ ((List.replicate (n - d.length) (bV 0)).drop x.length).drop y.length = (d ++ x ++ y).map bV ++ List.replicate (n - (d ++ x ++ y).length) (bV 0) := by
  rw [List.drop_replicate, List.drop_replicate, List.length_append, List.length_append, Nat.sub_sub, Nat.sub_sub, Nat.add_assoc]
theorem replaceAll0_of {old new s : List UInt8} (hk : old ≠ []) (hnw : new ≠ []) (hs : s.length ≤ 100000) (ho : old.length ≤ 100) (hn : new.length ≤ 100) (hL : (repS old new s).length ≤ 10000000)
    (hcnt : ∀ H, VCall Tryd.prog 136 [roB s, roB old] H (fun v K => v = iV (cntS old s) ∧ K = H))
    (hidx : ∀ (x : List UInt8) H, x.length ≤ s.length → VCall Tryd.prog 149 [roB x, roB old] H (fun v K => v = iV (idxI old x) ∧ K = H)) : VCall Tryd.prog 118 [roB s, roB old, roB new] ⟨[], 0⟩ (fun v K => Frx K v (roB (repS old new s))) := by
  have hlen := repS_len (x := new) hk _ s (Nat.le_refl _)
  have hle := cntS_le hk _ s (Nat.le_refl _)
  have hk0 : 0 < old.length := List.length_pos_iff.2 hk
  have hcs : cntS old s ≤ s.length := Nat.le_trans (Nat.le_mul_of_pos_right _ hk0) hle
  have hnx := repS_next (x := new) (l := s) hk
  have hcx := cntS_next (l := s) hk
  refine VCall.go Tryd.func118 rfl ?_
  by_cases hm0 : cntS old s = 0
  · have hr : repS old new s = s := by
      rw [hnx]
      cases hi : idxS old s with
      | none => rfl
      | some i => rw [hi] at hcx; simp only at hcx; omega
    rw [hr]
    rw [hm0] at hcnt
    repeat' (first | with_reducible refine And.intro ?_ ?_ | ((with_reducible intro hc); (try simp only [zA, zB, zC, zD, zE, zF, zG, zH, zI, zJ, zK, zL, zM, zN, zO, zP, zQ, zR, zS, zT, zU, zV, zW] at hc); (first | (exact absurd rfl hc) | (exact absurd trivial hc) | (exfalso; omega) | skip)) | exact Is.mk rfl rfl | ((conv => whnf); first | with_reducible refine And.intro ?_ ?_ | with_reducible intro hx | exact Is.mk rfl rfl | (with_reducible first | apply Val.via | apply ValH.via) | refine ifB_intro ?_ ?_ | refine xA (by omega) ?_ | ((refine xB ?_); intro kw hk1 hk2) | refine xC (by omega) ?_ | refine xD ?_ | refine xE (by omega) ?_ | refine xF (by omega) ?_ | refine xG ?_ | refine xH ?_ | refine xI (by omega) ?_ | refine xJ (by omega) ?_ | (with_reducible refine stopA ?_) | refine Exists.intro _ (And.intro (by (first | exact vat_of rfl rfl rfl | rfl)) ?_) | refine GOp.drawn (by rfl) (by rfl) (Nat.le_of_ble_eq_true (by rfl)) (by rfl) | refine GOp.via (by rfl) ?_ | refine GWP.drawY mixed _ (by kernel_rfl) (by rfl) ?_ | (first | (refine GCall.mk (VCall.inl Tryd.func151 rfl ?_)) | (refine GCall.mk ((hcnt _).mono ?_); rintro _ _ ⟨rfl, rfl⟩) | (refine stopO (GOp'.grow0 rfl sty_b (d := .slice 5) Tryd.underlying22 (by intro k h; cases h) (.inl rfl) (fun y => velems_roB s _) (one_map s) (by omega) (by omega) ?_))) | (with_reducible first | refine stopO ?_ | refine stopE ?_ | refine stopD ?_ | refine stopW ?_ | refine stopG ?_ | refine stopC ?_ | refine stopR ?_)))
    (all_goals (first | omega | (rw [List.length_map]; done) | (rw [List.length_map]; omega) | (simp only [List.length_cons, List.length_nil]; omega) | skip))
    exact Done'.mk (Frx.gs rfl (by simp) (fun v hv => by obtain ⟨c, _, rfl⟩ := List.mem_map.1 hv; exact exact_sc _))
  · generalize hR : repS old new s = R at *
    generalize hC : cntS old s = m at *
    repeat' (first | with_reducible refine And.intro ?_ ?_ | ((with_reducible intro hc); (try simp only [zA, zB, zC, zD, zE, zF, zG, zH, zI, zJ, zK, zL, zM, zN, zO, zP, zQ, zR, zS, zT, zU, zV, zW] at hc); (first | (exact absurd rfl hc) | (exact absurd trivial hc) | (exfalso; omega) | skip)) | exact Is.mk rfl rfl | ((conv => whnf); first | with_reducible refine And.intro ?_ ?_ | with_reducible intro hx | exact Is.mk rfl rfl | (with_reducible first | apply Val.via | apply ValH.via) | refine ifB_intro ?_ ?_ | refine xA (by omega) ?_ | ((refine xB ?_); intro kw hk1 hk2) | refine xC (by omega) ?_ | refine xD ?_ | refine xE (by omega) ?_ | refine xF (by omega) ?_ | refine xG ?_ | refine xH ?_ | refine xI (by omega) ?_ | refine xJ (by omega) ?_ | (with_reducible refine stopA ?_) | refine Exists.intro _ (And.intro (by (first | exact vat_of rfl rfl rfl | rfl)) ?_) | refine GOp.drawn (by rfl) (by rfl) (Nat.le_of_ble_eq_true (by rfl)) (by rfl) | refine GOp.via (by rfl) ?_ | refine GWP.drawY mixed _ (by kernel_rfl) (by rfl) ?_ | (first | (refine GCall.mk (VCall.inl Tryd.func151 rfl ?_)) | (refine GCall.mk ((hcnt _).mono ?_); rintro _ _ ⟨rfl, rfl⟩) | (refine stopO (GOp'.mkB (L := R.length) rfl rfl rfl (by omega) (by omega) ?_))) | (with_reducible first | refine stopO ?_ | refine stopE ?_ | refine stopD ?_ | refine stopW ?_ | refine stopG ?_ | refine stopC ?_ | refine stopR ?_)))
    (all_goals (first | omega | (rw [List.length_map]; done) | (rw [List.length_map]; omega) | (simp only [List.length_cons, List.length_nil]; omega) | skip))
    (refine GWP'.mk (GWP.loopB [0] (fun (a : List UInt8 × Nat × Nat) => a.2.1 ≤ s.length ∧ a.2.2 ≤ m ∧ a.1 ++ repS old new (s.drop a.2.1) = R ∧ cntS old (s.drop a.2.1) = m - a.2.2) (fun a => [(11, iV a.1.length), (12, iV a.2.1), (49, iV a.2.2)]) (fun a => [(0, .cells true (a.1.map bV ++ List.replicate (R.length - a.1.length) (bV 0)))]) 1 (fun a => m - a.2.2) ([], 0, 0) ⟨Nat.zero_le _, Nat.zero_le _, hR, hC⟩ ?_); (conv => whnf); refine And.intro ?_ ?_)
    · focus (refine KeptA.of [] rfl rfl (by repeat' (first | exact trivial | refine And.intro rfl ?_)) rfl ?_ ?_; all_goals (repeat' (first | exact trivial | (refine And.intro ?_ ?_) | (refine Exists.intro _ (And.intro rfl ?_)) | (refine RenO.opt ?_) | (refine RenO.toOpt ?_) | (refine RenO.cells ?_) | exact RenO.defs | exact RenL.nil | (refine RenL.cons ?_ ?_) | (first | exact RenL.of (by simp [nameless_bV]) | (with_reducible exact RenV.sc) | exact RenV.gsN | exact RenV.gsZ | exact RenV.gsL (by decide) | exact RenV.slL (by decide) | ((first | refine RenV.gsE (by (first | exact List.Mem.head _ | exact List.Mem.tail _ (List.Mem.head _) | exact List.Mem.tail _ (List.Mem.tail _ (List.Mem.head _)) | (simp; done))) ?_ | refine RenV.eq (scI_eq ?_) (nameless_sc _)); (first | rfl | omega | (simp only [List.length_append, List.length_cons, List.length_nil, List.length_map, List.length_take, List.length_drop] <;> omega) | (simp only <;> omega) | (simp <;> omega))) | exact RenV.undef) | (with_unfolding_all exact (rfl : (_ : VObj) = _)))))
    rintro ⟨done, st, i⟩ ⟨h1, h2, h3, h4⟩
    simp only at h1 h2 h3 h4 ⊢
    have hdl : (s.drop st).length = s.length - st := List.length_drop
    have hix := fun H => hidx (s.drop st) H (by omega)
    have hsl : VV.ro (s.length - ((st : Int)).toNat) (((s.map bV).drop (((st : Int)).toNat * 1)).take ((s.length - ((st : Int)).toNat) * 1)) = roB (s.drop st) := by
      rw [Int.toNat_natCast, Nat.mul_one, Nat.mul_one, ← List.map_drop, List.take_of_length_le (by simp)]
      unfold roB
      rw [hdl]
    have hrx := repS_next (x := new) (l := s.drop st) hk
    have hcx2 := cntS_next (l := s.drop st) hk
    by_cases hil : i < m
    · cases hi : idxS old (s.drop st) with
      | none => rw [hi] at hcx2; simp only at hcx2; omega
      | some q =>
        rw [hi] at hrx hcx2
        simp only at hrx hcx2
        obtain ⟨_, hq⟩ := idxS_at hi
        have hii : idxI old (s.drop st) = (q : Int) := by unfold idxI; rw [hi]
        rw [hii] at hix
        have hnl : 0 < new.length := List.length_pos_iff.2 hnw
        have hRl : done.length + ((s.drop st).take q).length + new.length + (repS old new ((s.drop st).drop (q + old.length))).length = R.length := by
          rw [← h3, hrx]; simp only [List.length_append]; omega
        have hx1 : ((s.drop st).take q).length = q := by simp; omega
        have hdd : (s.drop st).drop (q + old.length) = s.drop (st + q + old.length) := by rw [List.drop_drop, Nat.add_assoc]
        rw [hdd] at hrx hcx2 hRl
        repeat' (first | with_reducible refine And.intro ?_ ?_ | ((with_reducible intro hc); (try simp only [zA, zB, zC, zD, zE, zF, zG, zH, zI, zJ, zK, zL, zM, zN, zO, zP, zQ, zR, zS, zT, zU, zV, zW] at hc); (first | (exact absurd rfl hc) | (exact absurd trivial hc) | (exfalso; omega) | skip)) | exact Is.mk rfl rfl | ((conv => whnf); first | with_reducible refine And.intro ?_ ?_ | with_reducible intro hx | exact Is.mk rfl rfl | (with_reducible first | apply Val.via | apply ValH.via) | refine ifB_intro ?_ ?_ | refine xA (by omega) ?_ | ((refine xB ?_); intro kw hk1 hk2) | refine xC (by omega) ?_ | refine xD ?_ | refine xE (by omega) ?_ | refine xF (by omega) ?_ | refine xG ?_ | refine xH ?_ | refine xI (by omega) ?_ | refine xJ (by omega) ?_ | (with_reducible refine stopA ?_) | refine Exists.intro _ (And.intro (by (first | exact vat_of rfl rfl rfl | rfl)) ?_) | refine GOp.drawn (by rfl) (by rfl) (Nat.le_of_ble_eq_true (by rfl)) (by rfl) | refine GOp.via (by rfl) ?_ | refine GWP.drawY mixed _ (by kernel_rfl) (by rfl) ?_ | fail | (with_reducible first | refine stopO ?_ | refine stopE ?_ | refine stopD ?_ | refine stopW ?_ | refine stopG ?_ | refine stopC ?_ | refine stopR ?_)))
        (all_goals (first | omega | (rw [List.length_map]; done) | (rw [List.length_map]; omega) | (simp only [List.length_cons, List.length_nil]; omega) | skip))
        refine GCall'.mk (VCall.arg21 hsl ((hix _).mono ?_))
        rintro _ _ ⟨rfl, rfl⟩
        repeat' (first | with_reducible refine And.intro ?_ ?_ | ((with_reducible intro hc); (try simp only [zA, zB, zC, zD, zE, zF, zG, zH, zI, zJ, zK, zL, zM, zN, zO, zP, zQ, zR, zS, zT, zU, zV, zW] at hc); (first | (exact absurd rfl hc) | (exact absurd trivial hc) | (exfalso; omega) | skip)) | ((conv => whnf); first | with_reducible refine And.intro ?_ ?_ | refine ifB_intro ?_ ?_ | refine xA (by omega) ?_ | ((refine xB ?_); intro kw hk1 hk2) | refine xC (by omega) ?_ | refine xD ?_ | refine xE (by omega) ?_ | refine xF (by omega) ?_ | refine xG ?_ | refine xH ?_ | refine xI (by omega) ?_ | refine xJ (by omega) ?_ | (with_reducible refine stopA ?_) | refine Exists.intro _ (And.intro (by rfl) ?_) | refine GOp.via (by rfl) ?_ | (with_reducible first | refine stopO ?_ | refine stopE ?_ | refine stopD ?_ | refine stopW ?_ | refine stopG ?_ | refine stopC ?_ | refine stopR ?_)))
        (all_goals (first | omega | (rw [List.length_map]; done) | (rw [List.length_map]; omega) | (simp only [List.length_cons, List.length_nil]; omega) | skip))
        have hs2 : VV.ro (((st : Int) + (q : Int)).toNat - ((st : Int)).toNat) (((s.map bV).drop (((st : Int)).toNat * 1)).take ((((st : Int) + (q : Int)).toNat - ((st : Int)).toNat) * 1)) = roB ((s.drop st).take q) := by
          rw [show ((st : Int) + (q : Int)).toNat = st + q by omega, Int.toNat_natCast, Nat.mul_one, Nat.mul_one, ← List.map_drop, ← List.map_take, show st + q - st = q by omega]
          unfold roB
          rw [hx1]
        refine GWP'.mk ?_
        (refine GWP.drawY mixed _ (by kernel_rfl) (by rfl) ?_)
        repeat' (first | with_reducible refine And.intro ?_ ?_ | ((with_reducible intro hc); (try simp only [zA, zB, zC, zD, zE, zF, zG, zH, zI, zJ, zK, zL, zM, zN, zO, zP, zQ, zR, zS, zT, zU, zV, zW] at hc); (first | (exact absurd rfl hc) | (exact absurd trivial hc) | (exfalso; omega) | skip)) | exact Is.mk rfl rfl | ((conv => whnf); first | with_reducible refine And.intro ?_ ?_ | with_reducible intro hx | exact Is.mk rfl rfl | (with_reducible first | apply Val.via | apply ValH.via) | refine ifB_intro ?_ ?_ | refine xA (by omega) ?_ | ((refine xB ?_); intro kw hk1 hk2) | refine xC (by omega) ?_ | refine xD ?_ | refine xE (by omega) ?_ | refine xF (by omega) ?_ | refine xG ?_ | refine xH ?_ | refine xI (by omega) ?_ | refine xJ (by omega) ?_ | (with_reducible refine stopA ?_) | refine Exists.intro _ (And.intro (by (first | exact vat_of rfl rfl rfl | rfl)) ?_) | refine GOp.drawn (by rfl) (by rfl) (Nat.le_of_ble_eq_true (by rfl)) (by rfl) | refine GOp.via (by rfl) ?_ | refine GWP.drawY mixed _ (by kernel_rfl) (by rfl) ?_ | (first | (refine stopO (GOp'.slW (w := done.length) rfl Tryd.underlying22 (by kernel_rfl) rfl rfl rfl (by omega) ?_)) | (refine stopO (GOp'.cpB (n := R.length) (x := (s.drop st).take q) (done := done) (rest := List.replicate (R.length - done.length) (bV 0)) rfl Tryd.underlying22 (by kernel_rfl) rfl (.inl ⟨by omega, rfl⟩) ((congrArg (fun v => velems 1 v _) hs2).trans (velems_roB _ _)) rfl rfl rfl rfl (by simp; omega) (by omega) ?_))) | (with_reducible first | refine stopO ?_ | refine stopE ?_ | refine stopD ?_ | refine stopW ?_ | refine stopG ?_ | refine stopC ?_ | refine stopR ?_)))
        (all_goals (first | omega | (rw [List.length_map]; done) | (rw [List.length_map]; omega) | (simp only [List.length_cons, List.length_nil]; omega) | skip))
        generalize hxx : (s.drop st).take q = x1 at *
        repeat' (first | with_reducible refine And.intro ?_ ?_ | ((with_reducible intro hc); (try simp only [zA, zB, zC, zD, zE, zF, zG, zH, zI, zJ, zK, zL, zM, zN, zO, zP, zQ, zR, zS, zT, zU, zV, zW] at hc); (first | (exact absurd rfl hc) | (exact absurd trivial hc) | (exfalso; omega) | skip)) | exact Is.mk rfl rfl | ((conv => whnf); first | with_reducible refine And.intro ?_ ?_ | with_reducible intro hx | exact Is.mk rfl rfl | (with_reducible first | apply Val.via | apply ValH.via) | refine ifB_intro ?_ ?_ | refine xA (by omega) ?_ | ((refine xB ?_); intro kw hk1 hk2) | refine xC (by omega) ?_ | refine xD ?_ | refine xE (by omega) ?_ | refine xF (by omega) ?_ | refine xG ?_ | refine xH ?_ | refine xI (by omega) ?_ | refine xJ (by omega) ?_ | (with_reducible refine stopA ?_) | refine Exists.intro _ (And.intro (by (first | exact vat_of rfl rfl rfl | rfl)) ?_) | refine GOp.drawn (by rfl) (by rfl) (Nat.le_of_ble_eq_true (by rfl)) (by rfl) | refine GOp.via (by rfl) ?_ | refine GWP.drawY mixed _ (by kernel_rfl) (by rfl) ?_ | fail | (with_reducible first | refine stopO ?_ | refine stopE ?_ | refine stopD ?_ | refine stopW ?_ | refine stopG ?_ | refine stopC ?_ | refine stopR ?_)))
        (all_goals (first | omega | (rw [List.length_map]; done) | (rw [List.length_map]; omega) | (simp only [List.length_cons, List.length_nil]; omega) | skip))
        refine (GOp'.slW (w := (done ++ x1).length) rfl Tryd.underlying22 (by kernel_rfl) rfl rfl (by simp) (by simp only [List.length_append]; omega) ?_)
        repeat' (first | with_reducible refine And.intro ?_ ?_ | ((with_reducible intro hc); (try simp only [zA, zB, zC, zD, zE, zF, zG, zH, zI, zJ, zK, zL, zM, zN, zO, zP, zQ, zR, zS, zT, zU, zV, zW] at hc); (first | (exact absurd rfl hc) | (exact absurd trivial hc) | (exfalso; omega) | skip)) | exact Is.mk rfl rfl | ((conv => whnf); first | with_reducible refine And.intro ?_ ?_ | with_reducible intro hx | exact Is.mk rfl rfl | (with_reducible first | apply Val.via | apply ValH.via) | refine ifB_intro ?_ ?_ | refine xA (by omega) ?_ | ((refine xB ?_); intro kw hk1 hk2) | refine xC (by omega) ?_ | refine xD ?_ | refine xE (by omega) ?_ | refine xF (by omega) ?_ | refine xG ?_ | refine xH ?_ | refine xI (by omega) ?_ | refine xJ (by omega) ?_ | (with_reducible refine stopA ?_) | refine Exists.intro _ (And.intro (by (first | exact vat_of rfl rfl rfl | rfl)) ?_) | refine GOp.drawn (by rfl) (by rfl) (Nat.le_of_ble_eq_true (by rfl)) (by rfl) | refine GOp.via (by rfl) ?_ | refine GWP.drawY mixed _ (by kernel_rfl) (by rfl) ?_ | fail | (with_reducible first | refine stopO ?_ | refine stopE ?_ | refine stopD ?_ | refine stopW ?_ | refine stopG ?_ | refine stopC ?_ | refine stopR ?_)))
        (all_goals (first | omega | (rw [List.length_map]; done) | (rw [List.length_map]; omega) | (simp only [List.length_cons, List.length_nil]; omega) | skip))
        refine (GOp'.cpB (d := .tmp 71) (s := .tmp 72) (w := (done ++ x1).length) (n := R.length) (x := new) (done := done ++ x1) (rest := (List.replicate (R.length - done.length) (bV 0)).drop x1.length) rfl Tryd.underlying22 (by kernel_rfl) rfl (.inl ⟨by simp only [List.length_append]; omega, rfl⟩) (velems_roB new _) rfl rfl rfl rfl (by simp; omega) (by simp only [List.length_append]; omega) ?_)
        repeat' (first | with_reducible refine And.intro ?_ ?_ | ((with_reducible intro hc); (try simp only [zA, zB, zC, zD, zE, zF, zG, zH, zI, zJ, zK, zL, zM, zN, zO, zP, zQ, zR, zS, zT, zU, zV, zW] at hc); (first | (exact absurd rfl hc) | (exact absurd trivial hc) | (exfalso; omega) | skip)) | exact Is.mk rfl rfl | ((conv => whnf); first | with_reducible refine And.intro ?_ ?_ | with_reducible intro hx | exact Is.mk rfl rfl | (with_reducible first | apply Val.via | apply ValH.via) | refine ifB_intro ?_ ?_ | refine xA (by omega) ?_ | ((refine xB ?_); intro kw hk1 hk2) | refine xC (by omega) ?_ | refine xD ?_ | refine xE (by omega) ?_ | refine xF (by omega) ?_ | refine xG ?_ | refine xH ?_ | refine xI (by omega) ?_ | refine xJ (by omega) ?_ | (with_reducible refine stopA ?_) | refine Exists.intro _ (And.intro (by (first | exact vat_of rfl rfl rfl | rfl)) ?_) | refine GOp.drawn (by rfl) (by rfl) (Nat.le_of_ble_eq_true (by rfl)) (by rfl) | refine GOp.via (by rfl) ?_ | refine GWP.drawY mixed _ (by kernel_rfl) (by rfl) ?_ | fail | (with_reducible first | refine stopO ?_ | refine stopE ?_ | refine stopD ?_ | refine stopW ?_ | refine stopG ?_ | refine stopC ?_ | refine stopR ?_)))
        (all_goals (first | omega | (rw [List.length_map]; done) | (rw [List.length_map]; omega) | (simp only [List.length_cons, List.length_nil]; omega) | skip))
        focus (refine Done'.mk ⟨(done ++ x1 ++ new, st + q + old.length, i + 1), ⟨by simp only; omega, by simp only; omega, by simp only; rw [← h3, hrx]; simp, by simp only; omega⟩, ?_, KeptA.of [] rfl rfl (by repeat' (first | exact trivial | refine And.intro rfl ?_)) rfl ?_ ?_⟩; (first | omega | (simp only; omega)); all_goals (repeat' (first | exact trivial | (refine And.intro ?_ ?_) | (refine Exists.intro _ (And.intro rfl ?_)) | (refine RenO.opt ?_) | (refine RenO.toOpt ?_) | (refine RenO.cells ?_) | exact RenO.defs | exact RenL.nil | (refine RenL.cons ?_ ?_) | (first | (first | exact RenL.eq (buf_next2 done x1 new R.length) (nameless_buf _ _) | exact RenV.eq (scI_eq (by simp; omega)) (nameless_sc _)) | (with_reducible exact RenV.sc) | exact RenV.gsN | exact RenV.gsZ | exact RenV.gsL (by decide) | exact RenV.slL (by decide) | ((first | refine RenV.gsE (by (first | exact List.Mem.head _ | exact List.Mem.tail _ (List.Mem.head _) | exact List.Mem.tail _ (List.Mem.tail _ (List.Mem.head _)) | (simp; done))) ?_ | refine RenV.eq (scI_eq ?_) (nameless_sc _)); (first | rfl | omega | (simp only [List.length_append, List.length_cons, List.length_nil, List.length_map, List.length_take, List.length_drop] <;> omega) | (simp only <;> omega) | (simp <;> omega))) | exact RenV.undef) | (with_unfolding_all exact (rfl : (_ : VObj) = _)))))
    · obtain rfl : i = m := by omega
      have hno : idxS old (s.drop st) = none := by
        cases hi : idxS old (s.drop st) with
        | none => rfl
        | some q => rw [hi] at hcx2; simp only at hcx2; omega
      rw [hno] at hrx
      simp only at hrx
      rw [hrx] at h3
      have hRl : done.length + (s.drop st).length = R.length := by rw [← h3]; simp
      have hR0 : 0 < R.length := by
        rw [hnx]
        cases hi : idxS old s with
        | none => rw [hi] at hcx; simp only at hcx; omega
        | some q =>
          have := List.length_pos_iff.2 hnw
          simp only [List.length_append]
          omega
      have fin : ∀ (K : Heap), K.get 0 = some (.cells true (R.map bV)) → Frx K (.sl 0 (0 + 0 * 1) (R.length - 0) none 1) (roB R) := fun K hK => by
        have := Frx.sl (K := K) (b := 0) (o := 0) (n := R.length) (z := 1) (c := none) hK (by simp) (fun v hv => by obtain ⟨c, _, rfl⟩ := List.mem_map.1 hv; exact exact_sc _)
        rw [List.drop_zero, Nat.mul_one, List.take_of_length_le (by simp)] at this
        exact this
      have hbuf : (done ++ s.drop st).map bV ++ (List.replicate (R.length - done.length) (bV 0)).drop (s.drop st).length = R.map bV := by
        rw [buf_next, h3, Nat.sub_self]
        simp
      by_cases h0 : (s.drop st).length = 0
      · have hw : done.length = R.length := by omega
        have hs0 : s.drop st = [] := List.eq_nil_of_length_eq_zero h0
        repeat' (first | with_reducible refine And.intro ?_ ?_ | ((with_reducible intro hc); (try simp only [zA, zB, zC, zD, zE, zF, zG, zH, zI, zJ, zK, zL, zM, zN, zO, zP, zQ, zR, zS, zT, zU, zV, zW] at hc); (first | (exact absurd rfl hc) | (exact absurd trivial hc) | (exfalso; omega) | skip)) | exact Is.mk rfl rfl | ((conv => whnf); first | with_reducible refine And.intro ?_ ?_ | with_reducible intro hx | exact Is.mk rfl rfl | (with_reducible first | apply Val.via | apply ValH.via) | refine ifB_intro ?_ ?_ | refine xA (by omega) ?_ | ((refine xB ?_); intro kw hk1 hk2) | refine xC (by omega) ?_ | refine xD ?_ | refine xE (by omega) ?_ | refine xF (by omega) ?_ | refine xG ?_ | refine xH ?_ | refine xI (by omega) ?_ | refine xJ (by omega) ?_ | (with_reducible refine stopA ?_) | refine Exists.intro _ (And.intro (by (first | exact vat_of rfl rfl rfl | rfl)) ?_) | refine GOp.drawn (by rfl) (by rfl) (Nat.le_of_ble_eq_true (by rfl)) (by rfl) | refine GOp.via (by rfl) ?_ | fail | (with_reducible first | refine stopO ?_ | refine stopE ?_ | refine stopD ?_ | refine stopW ?_ | refine stopG ?_ | refine stopC ?_ | refine stopR ?_)))
        (all_goals (first | omega | (rw [List.length_map]; done) | (rw [List.length_map]; omega) | (simp only [List.length_cons, List.length_nil]; omega) | skip))
        refine GWP'.mk ?_
        (refine GWP.drawY mixed _ (by kernel_rfl) (by rfl) ?_)
        repeat' (first | with_reducible refine And.intro ?_ ?_ | ((with_reducible intro hc); (try simp only [zA, zB, zC, zD, zE, zF, zG, zH, zI, zJ, zK, zL, zM, zN, zO, zP, zQ, zR, zS, zT, zU, zV, zW] at hc); (first | (exact absurd rfl hc) | (exact absurd trivial hc) | (exfalso; omega) | skip)) | exact Is.mk rfl rfl | ((conv => whnf); first | with_reducible refine And.intro ?_ ?_ | with_reducible intro hx | exact Is.mk rfl rfl | (with_reducible first | apply Val.via | apply ValH.via) | refine ifB_intro ?_ ?_ | refine xA (by omega) ?_ | ((refine xB ?_); intro kw hk1 hk2) | refine xC (by omega) ?_ | refine xD ?_ | refine xE (by omega) ?_ | refine xF (by omega) ?_ | refine xG ?_ | refine xH ?_ | refine xI (by omega) ?_ | refine xJ (by omega) ?_ | (with_reducible refine stopA ?_) | refine Exists.intro _ (And.intro (by (first | exact vat_of rfl rfl rfl | rfl)) ?_) | refine GOp.drawn (by rfl) (by rfl) (Nat.le_of_ble_eq_true (by rfl)) (by rfl) | refine GOp.via (by rfl) ?_ | refine GWP.drawY mixed _ (by kernel_rfl) (by rfl) ?_ | (first | (refine stopO (GOp'.slV0 rfl Tryd.underlying22 (by kernel_rfl) rfl rfl (by omega) (by omega) ?_)) | (refine stopO (GOp'.cp0 rfl Tryd.underlying22 (by kernel_rfl) rfl ((congrArg (fun v => velems 1 v _) hsl).trans (velems_roB _ _)) ?_))) | (with_reducible first | refine stopO ?_ | refine stopE ?_ | refine stopD ?_ | refine stopW ?_ | refine stopG ?_ | refine stopC ?_ | refine stopR ?_)))
        (all_goals (first | omega | (rw [List.length_map]; done) | (rw [List.length_map]; omega) | (simp only [List.length_cons, List.length_nil]; omega) | skip))
        refine GOp'.slN (z := 1) (l := 0) (h := R.length) rfl Tryd.underlying22 (by kernel_rfl) rfl ((vb_lh ⟨by omega, by omega, by omega⟩).trans (by rw [show ((done.length : Int) + 0).toNat = R.length by omega]; rfl)) hR0 ?_
        repeat' (first | with_reducible refine And.intro ?_ ?_ | ((with_reducible intro hc); (try simp only [zA, zB, zC, zD, zE, zF, zG, zH, zI, zJ, zK, zL, zM, zN, zO, zP, zQ, zR, zS, zT, zU, zV, zW] at hc); (first | (exact absurd rfl hc) | (exact absurd trivial hc) | (exfalso; omega) | skip)) | exact Is.mk rfl rfl | ((conv => whnf); first | with_reducible refine And.intro ?_ ?_ | with_reducible intro hx | exact Is.mk rfl rfl | (with_reducible first | apply Val.via | apply ValH.via) | refine ifB_intro ?_ ?_ | refine xA (by omega) ?_ | ((refine xB ?_); intro kw hk1 hk2) | refine xC (by omega) ?_ | refine xD ?_ | refine xE (by omega) ?_ | refine xF (by omega) ?_ | refine xG ?_ | refine xH ?_ | refine xI (by omega) ?_ | refine xJ (by omega) ?_ | (with_reducible refine stopA ?_) | refine Exists.intro _ (And.intro (by (first | exact vat_of rfl rfl rfl | rfl)) ?_) | refine GOp.drawn (by rfl) (by rfl) (Nat.le_of_ble_eq_true (by rfl)) (by rfl) | refine GOp.via (by rfl) ?_ | refine GWP.drawY mixed _ (by kernel_rfl) (by rfl) ?_ | fail | (with_reducible first | refine stopO ?_ | refine stopE ?_ | refine stopD ?_ | refine stopW ?_ | refine stopG ?_ | refine stopC ?_ | refine stopR ?_)))
        refine Done'.mk (fin _ ?_)
        have hb2 : done.map bV ++ List.replicate (R.length - done.length) (bV 0) = R.map bV := by
          rw [← h3, hs0]
          simp
        rw [← hb2]
        rfl
      · repeat' (first | with_reducible refine And.intro ?_ ?_ | ((with_reducible intro hc); (try simp only [zA, zB, zC, zD, zE, zF, zG, zH, zI, zJ, zK, zL, zM, zN, zO, zP, zQ, zR, zS, zT, zU, zV, zW] at hc); (first | (exact absurd rfl hc) | (exact absurd trivial hc) | (exfalso; omega) | skip)) | exact Is.mk rfl rfl | ((conv => whnf); first | with_reducible refine And.intro ?_ ?_ | with_reducible intro hx | exact Is.mk rfl rfl | (with_reducible first | apply Val.via | apply ValH.via) | refine ifB_intro ?_ ?_ | refine xA (by omega) ?_ | ((refine xB ?_); intro kw hk1 hk2) | refine xC (by omega) ?_ | refine xD ?_ | refine xE (by omega) ?_ | refine xF (by omega) ?_ | refine xG ?_ | refine xH ?_ | refine xI (by omega) ?_ | refine xJ (by omega) ?_ | (with_reducible refine stopA ?_) | refine Exists.intro _ (And.intro (by (first | exact vat_of rfl rfl rfl | rfl)) ?_) | refine GOp.drawn (by rfl) (by rfl) (Nat.le_of_ble_eq_true (by rfl)) (by rfl) | refine GOp.via (by rfl) ?_ | fail | (with_reducible first | refine stopO ?_ | refine stopE ?_ | refine stopD ?_ | refine stopW ?_ | refine stopG ?_ | refine stopC ?_ | refine stopR ?_)))
        (all_goals (first | omega | (rw [List.length_map]; done) | (rw [List.length_map]; omega) | (simp only [List.length_cons, List.length_nil]; omega) | skip))
        refine GWP'.mk ?_
        (refine GWP.drawY mixed _ (by kernel_rfl) (by rfl) ?_)
        repeat' (first | with_reducible refine And.intro ?_ ?_ | ((with_reducible intro hc); (try simp only [zA, zB, zC, zD, zE, zF, zG, zH, zI, zJ, zK, zL, zM, zN, zO, zP, zQ, zR, zS, zT, zU, zV, zW] at hc); (first | (exact absurd rfl hc) | (exact absurd trivial hc) | (exfalso; omega) | skip)) | exact Is.mk rfl rfl | ((conv => whnf); first | with_reducible refine And.intro ?_ ?_ | with_reducible intro hx | exact Is.mk rfl rfl | (with_reducible first | apply Val.via | apply ValH.via) | refine ifB_intro ?_ ?_ | refine xA (by omega) ?_ | ((refine xB ?_); intro kw hk1 hk2) | refine xC (by omega) ?_ | refine xD ?_ | refine xE (by omega) ?_ | refine xF (by omega) ?_ | refine xG ?_ | refine xH ?_ | refine xI (by omega) ?_ | refine xJ (by omega) ?_ | (with_reducible refine stopA ?_) | refine Exists.intro _ (And.intro (by (first | exact vat_of rfl rfl rfl | rfl)) ?_) | refine GOp.drawn (by rfl) (by rfl) (Nat.le_of_ble_eq_true (by rfl)) (by rfl) | refine GOp.via (by rfl) ?_ | refine GWP.drawY mixed _ (by kernel_rfl) (by rfl) ?_ | (first | (refine stopO (GOp'.slW (w := done.length) rfl Tryd.underlying22 (by kernel_rfl) rfl rfl rfl (by omega) ?_)) | (refine stopO (GOp'.cpB (w := done.length) (n := R.length) (x := s.drop st) (done := done) (rest := List.replicate (R.length - done.length) (bV 0)) rfl Tryd.underlying22 (by kernel_rfl) rfl (.inl ⟨by omega, rfl⟩) ((congrArg (fun v => velems 1 v _) hsl).trans (velems_roB _ _)) rfl rfl rfl rfl (by simp; omega) (by omega) ?_))) | (with_reducible first | refine stopO ?_ | refine stopE ?_ | refine stopD ?_ | refine stopW ?_ | refine stopG ?_ | refine stopC ?_ | refine stopR ?_)))
        (all_goals (first | omega | (rw [List.length_map]; done) | (rw [List.length_map]; omega) | (simp only [List.length_cons, List.length_nil]; omega) | skip))
        refine GOp'.slN (z := 1) (l := 0) (h := R.length) rfl Tryd.underlying22 (by kernel_rfl) rfl ((vb_lh ⟨by omega, by omega, by omega⟩).trans (by rw [show ((done.length : Int) + ((s.drop st).length : Int)).toNat = R.length by omega]; rfl)) hR0 ?_
        repeat' (first | with_reducible refine And.intro ?_ ?_ | ((with_reducible intro hc); (try simp only [zA, zB, zC, zD, zE, zF, zG, zH, zI, zJ, zK, zL, zM, zN, zO, zP, zQ, zR, zS, zT, zU, zV, zW] at hc); (first | (exact absurd rfl hc) | (exact absurd trivial hc) | (exfalso; omega) | skip)) | exact Is.mk rfl rfl | ((conv => whnf); first | with_reducible refine And.intro ?_ ?_ | with_reducible intro hx | exact Is.mk rfl rfl | (with_reducible first | apply Val.via | apply ValH.via) | refine ifB_intro ?_ ?_ | refine xA (by omega) ?_ | ((refine xB ?_); intro kw hk1 hk2) | refine xC (by omega) ?_ | refine xD ?_ | refine xE (by omega) ?_ | refine xF (by omega) ?_ | refine xG ?_ | refine xH ?_ | refine xI (by omega) ?_ | refine xJ (by omega) ?_ | (with_reducible refine stopA ?_) | refine Exists.intro _ (And.intro (by (first | exact vat_of rfl rfl rfl | rfl)) ?_) | refine GOp.drawn (by rfl) (by rfl) (Nat.le_of_ble_eq_true (by rfl)) (by rfl) | refine GOp.via (by rfl) ?_ | refine GWP.drawY mixed _ (by kernel_rfl) (by rfl) ?_ | fail | (with_reducible first | refine stopO ?_ | refine stopE ?_ | refine stopD ?_ | refine stopW ?_ | refine stopG ?_ | refine stopC ?_ | refine stopR ?_)))
        refine Done'.mk (fin _ ?_)
        rw [← hbuf]
        rfl
/-- ReplaceAll, of three slices that stay as they are. -/
theorem replaceAll_of {old new s : List UInt8} (hk : old ≠ []) (hnw : new ≠ []) (hs : s.length ≤ 100000) (ho : old.length ≤ 100) (hn : new.length ≤ 100) (hL : (repS old new s).length ≤ 10000000)
    (hcnt : ∀ H, VCall Tryd.prog 136 [roB s, roB old] H (fun v K => v = iV (cntS old s) ∧ K = H))
    (hidx : ∀ (x : List UInt8) H, x.length ≤ s.length → VCall Tryd.prog 149 [roB x, roB old] H (fun v K => v = iV (idxI old x) ∧ K = H)) {H : Heap} {u v w : VV} (hu : View H u (roB s)) (hv : View H v (roB old)) (hw : View H w (roB new)) : VCall Tryd.prog 118 [u, v, w] H (fun x K => x = roB (repS old new s) ∧ K = H) :=
  VCall.viewed (args' := [roB s, roB old, roB new]) (Q := fun v K => Frx K v (roB (repS old new s))) (.cons hu (.cons hv (.cons hw .nil))) (replaceAll0_of hk hnw hs ho hn hL hcnt hidx) (fun v K h => h)
end Go.Proofs.YtmmjgbdihgdekaaDoor

/- bytes.Index and bytes.Count, at any bytes. -/
namespace Go.Proofs.YtmmjgbdihgdekaaDoor
open Go Go.RowKit
set_option linter.unusedSimpArgs false
set_option linter.unusedVariables false
set_option maxRecDepth 100000
set_option maxHeartbeats 4000000
theorem idxI_eq (p : List UInt8) : ∀ l : List UInt8, idxI p l = Lib.index l p
  | [] => by
    unfold idxI idxS Lib.index
    cases p with
    | nil => rfl
    | cons a r => rfl
  | c :: r => by
    have ih := idxI_eq p r
    unfold idxI idxS Lib.index
    by_cases h : p.isPrefixOf (c :: r) = true
    · rw [if_pos h, if_pos h]
      rfl
    · rw [if_neg h, if_neg h, ← ih]
      unfold idxI
      cases idxS p r with
      | none => rfl
      | some i =>
        have : ((i : Int) == -1) = false := by simp <;> omega
        simp only [Option.map_some, this]
        simp
theorem cells_bytes {x : List UInt8} {w : World} {Z : Nat → Prop} {ρ : Nat → Option (Nat × Nat)} {y : Value} (h : VRel w Z ρ (roB x) y) (hx : x ≠ []) : ∃ k o c, y = .slice (some ⟨k, o, none⟩) x.length c ∧ x.length ≤ c ∧ ∀ j b, x[j]? = some b → w.cell? ⟨k, o + j, none⟩ = some (.int .u8 b.toNat) := by
  unfold roB at h
  obtain ⟨vs, hvs⟩ : ∃ vs, x.map bV = vs := ⟨_, rfl⟩
  obtain ⟨n, hn⟩ : ∃ n, x.length = n := ⟨_, rfl⟩
  have hn0 : n ≠ 0 := fun e => hx (List.eq_nil_of_length_eq_zero (hn.trans e))
  rw [hvs, hn] at h
  rw [hn]
  cases h with
  | ro0 => exact absurd rfl hn0
  | @ro _ k o c' _ cs hZ hle hl2 hcell hr =>
    refine ⟨k, o, c', rfl, hle, fun j c hj => ?_⟩
    have hm : vs[j]? = some (bV c) := by rw [← hvs, List.getElem?_map, hj]; rfl
    have hjl : j < vs.length := (List.getElem?_eq_some_iff.1 hm).1
    have hjc : j < cs.length := by omega
    rw [hcell j hjc, List.getElem?_eq_getElem hjc]
    have hq := hr j _ _ hm (List.getElem?_eq_getElem hjc)
    exact congrArg some (sc_inv hq)
/-- A contract at two rows of bytes that the world holds. -/
theorem VCall.ofBytes2 {P : Program} {f : FuncId} {x y : List UInt8} {z : Int} {H : Heap} (hx : x ≠ []) (hy : y ≠ [])
    (h : ∀ (w : World) (b1 o1 c1 b2 o2 c2 : Nat), x.length ≤ c1 → (∀ j c, x[j]? = some c → w.cell? ⟨b1, o1 + j, none⟩ = some (.int .u8 c.toNat)) → (∀ j c, y[j]? = some c → w.cell? ⟨b2, o2 + j, none⟩ = some (.int .u8 c.toNat)) → Tabs w →
      Calls P f #[.slice (some ⟨b1, o1, none⟩) x.length c1, .slice (some ⟨b2, o2, none⟩) y.length c2] w (fun e w' => e = .returned (.int .i64 z) ∧ ∃ q, w' = w.drewN q)) :
    VCall P f [roB x, roB y] H (fun v K => v = iV z ∧ K = H) := fun B M Z ρ w ra h1 h2 => by
  obtain ⟨hlen, hrel⟩ := h2
  match hra : ra.toList, hlen with
  | [a0, a1], _ =>
    obtain ⟨b1, o1, c1, rfl, e1, f1⟩ := cells_bytes (hrel 0 (roB x) a0 rfl (by rw [hra]; rfl)) hx
    obtain ⟨b2, o2, c2, rfl, e2, f2⟩ := cells_bytes (hrel 1 (roB y) a1 rfl (by rw [hra]; rfl)) hy
    obtain rfl : ra = #[.slice (some ⟨b1, o1, none⟩) x.length c1, .slice (some ⟨b2, o2, none⟩) y.length c2] := by
      cases ra
      simp only at hra
      rw [hra]
    refine (h w b1 o1 c1 b2 o2 c2 e1 f1 f2 h1.tabs).mono ?_
    rintro e w' ⟨rfl, q, rfl⟩
    obtain ⟨e3, r3⟩ := h1.step (Z' := Z) (w' := w.drewN q) rfl rfl rfl (Nat.le_refl _) (fun _ _ => rfl) (fun _ h => h) (fun _ h => .inl h)
    exact ⟨.int .i64 z, iV z, H, Z, ρ, rfl, ⟨rfl, rfl⟩, e3, r3, .sc rfl⟩
/-- Bytes, as numbers. -/
def numsB (x : List UInt8) : List Int := x.map fun c => (c.toNat : Int)
theorem bytesOf_nums (x : List UInt8) : Lib.bytesOf (numsB x) = x := by
  unfold Lib.bytesOf numsB
  rw [List.map_map]
  conv => rhs; rw [← List.map_id x]
  refine List.map_congr_left fun c _ => ?_
  simp
theorem nums_cell {x : List UInt8} {w : World} {b o : Nat} (h : ∀ j c, x[j]? = some c → w.cell? ⟨b, o + j, none⟩ = some (.int .u8 c.toNat)) : ∀ i, i < x.length → w.cell? ((⟨b, o, none⟩ : Addr).add i) = some (.int .u8 ((numsB x).getD i 0)) := fun i hi => by
  rw [Addr.add_lit, h i _ (List.getElem?_eq_getElem hi)]
  unfold numsB
  rw [List.getD_eq_getElem?_getD, List.getElem?_map, List.getElem?_eq_getElem hi]
  rfl
theorem nums_range (x : List UInt8) : ∀ n ∈ numsB x, 0 ≤ n ∧ n < 256 := fun n hn => by
  obtain ⟨c, _, rfl⟩ := List.mem_map.1 hn
  have := c.toNat_lt
  omega
theorem idx_nil {p : List UInt8} (hp : p ≠ []) : idxI p [] = -1 := by
  unfold idxI idxS
  rw [if_neg (by cases p with
    | nil => exact absurd rfl hp
    | cons a t => simp [List.isPrefixOf])]
theorem index_nil_call (p : List UInt8) (hp : p ≠ []) (hpl : p.length ≤ 1000) (H : Heap) : VCall Tryd.prog 149 [roB [], roB p] H (fun v K => v = iV (-1) ∧ K = H) := by
  have hp0 : 0 < p.length := List.length_pos_iff.2 hp
  refine VCall.pure (by simp [nameless_roB]) (nameless_sc _) ?_
  have h00 : ([] : List UInt8).length = 0 := rfl
  refine VCall.go Tryd.func149 rfl ?_
  by_cases h1 : p.length = 1
  · obtain ⟨c, rfl⟩ := List.length_eq_one_iff.1 h1
    have hib := fun H => indexByte_call [] c H
    repeat' (first | with_reducible refine And.intro ?_ ?_ | ((with_reducible intro hc); (try simp only [zA, zB, zC, zD, zE, zF, zG, zH, zI, zJ, zK, zL, zM, zN, zO, zP, zQ, zR, zS, zT, zU, zV, zW] at hc); (first | (exact absurd rfl hc) | (exact absurd trivial hc) | (exfalso; omega) | skip)) | exact Is.mk rfl rfl | ((conv => whnf); first | with_reducible refine And.intro ?_ ?_ | with_reducible intro hx | exact Is.mk rfl rfl | (with_reducible first | apply Val.via | apply ValH.via) | refine ifB_intro ?_ ?_ | refine xA (by omega) ?_ | ((refine xB ?_); intro kw hk1 hk2) | refine xC (by omega) ?_ | refine xD ?_ | refine xE (by omega) ?_ | refine xF (by omega) ?_ | refine xG ?_ | refine xH ?_ | refine xI (by omega) ?_ | refine xJ (by omega) ?_ | (with_reducible refine stopA ?_) | refine Exists.intro _ (And.intro (by (first | exact vat_of vagg_u8 rfl (mul1 rfl rfl) | rfl)) ?_) | refine GOp.drawn (by rfl) (by rfl) (Nat.le_of_ble_eq_true (by rfl)) (by rfl) | refine GOp.via (by rfl) ?_ | refine GWP.drawY mixed _ (by kernel_rfl) (by rfl) ?_ | (refine GCall.mk ((hib _).mono ?_); rintro _ _ ⟨rfl, rfl⟩) | (with_reducible first | refine stopO ?_ | refine stopE ?_ | refine stopD ?_ | refine stopW ?_ | refine stopG ?_ | refine stopC ?_ | refine stopR ?_)))
    (all_goals (first | omega | (rw [List.length_map]; done) | (rw [List.length_map]; omega) | (simp only [List.length_cons, List.length_nil]; omega) | skip))
    all_goals exact Done'.mk rfl
  · repeat' (first | with_reducible refine And.intro ?_ ?_ | ((with_reducible intro hc); (try simp only [zA, zB, zC, zD, zE, zF, zG, zH, zI, zJ, zK, zL, zM, zN, zO, zP, zQ, zR, zS, zT, zU, zV, zW] at hc); (first | (exact absurd rfl hc) | (exact absurd trivial hc) | (exfalso; omega) | skip)) | exact Is.mk rfl rfl | ((conv => whnf); first | with_reducible refine And.intro ?_ ?_ | with_reducible intro hx | exact Is.mk rfl rfl | (with_reducible first | apply Val.via | apply ValH.via) | refine ifB_intro ?_ ?_ | refine xA (by omega) ?_ | ((refine xB ?_); intro kw hk1 hk2) | refine xC (by omega) ?_ | refine xD ?_ | refine xE (by omega) ?_ | refine xF (by omega) ?_ | refine xG ?_ | refine xH ?_ | refine xI (by omega) ?_ | refine xJ (by omega) ?_ | (with_reducible refine stopA ?_) | refine Exists.intro _ (And.intro (by (first | exact vat_of rfl rfl rfl | rfl)) ?_) | refine GOp.drawn (by rfl) (by rfl) (Nat.le_of_ble_eq_true (by rfl)) (by rfl) | refine GOp.via (by rfl) ?_ | refine GWP.drawY mixed _ (by kernel_rfl) (by rfl) ?_ | fail | (with_reducible first | refine stopO ?_ | refine stopE ?_ | refine stopD ?_ | refine stopW ?_ | refine stopG ?_ | refine stopC ?_ | refine stopR ?_)))
    (all_goals (first | omega | (rw [List.length_map]; done) | (rw [List.length_map]; omega) | (simp only [List.length_cons, List.length_nil]; omega) | skip))
    all_goals exact Done'.mk rfl
theorem indexS_call (x p : List UInt8) (hp : p ≠ []) (hx : x.length ≤ 100000) (hpl : p.length ≤ 1000) (H : Heap) : VCall Tryd.prog 149 [roB x, roB p] H (fun v K => v = iV (idxI p x) ∧ K = H) := by
  by_cases h0 : x = []
  · subst h0
    rw [idx_nil hp]
    exact index_nil_call p hp hpl H
  · refine VCall.ofBytes2 h0 hp fun w b1 o1 c1 b2 o2 c2 hc f1 f2 ht => ?_
    obtain ⟨_, m, hm⟩ := ht
    have := Any.bytes_Index_at (P := Tryd.prog) Tryd.lays185 ⟨b1, o1, none⟩ ⟨b2, o2, none⟩ x.length c1 p.length c2 (numsB x) (numsB p) m w (by unfold numsB; simp) (by unfold numsB; simp) (nums_range x) (nums_range p) (nums_cell f1) (nums_cell f2) hc (by omega) (by omega) hm
    rw [bytesOf_nums, bytesOf_nums, ← idxI_eq] at this
    exact this
theorem cntS_ne {p : List UInt8} {c : UInt8} {r : List UInt8} (hp : p ≠ []) (h : p.isPrefixOf (c :: r) = false) : cntS p (c :: r) = cntS p r := by
  rw [cntS_next hp, cntS_next (l := r) hp, idxS_ne h]
  cases hi : idxS p r with
  | none => rfl
  | some i =>
    simp only [Option.map_some]
    rw [show i + 1 + p.length = (i + p.length) + 1 by omega, List.drop_succ_cons]
theorem cntS_hit {p : List UInt8} {r : List UInt8} (hp : p ≠ []) : cntS p (p ++ r) = cntS p r + 1 := by
  have hi : idxS p (p ++ r) = some 0 := by
    have h1 : p.isPrefixOf (p ++ r) = true := List.isPrefixOf_iff_prefix.2 ⟨r, rfl⟩
    cases h : p ++ r with
    | nil => exact absurd (List.append_eq_nil_iff.1 h).1 hp
    | cons a t =>
      rw [h] at h1
      unfold idxS
      rw [if_pos h1]
  rw [cntS_next hp, hi]
  simp
theorem cntS_nil {p : List UInt8} (hp : p ≠ []) : cntS p [] = 0 := by
  rw [cntS_next hp]
  have h := idx_nil hp
  unfold idxI at h
  cases hi : idxS p [] with
  | none => rfl
  | some i => rw [hi] at h; simp only at h; omega
theorem cntS_one (c : UInt8) : ∀ l : List UInt8, cntS [c] l = l.count c
  | [] => cntS_nil (by simp)
  | a :: r => by
    by_cases h : a = c
    · subst h
      have := cntS_hit (p := [a]) (r := r) (by simp)
      rw [List.singleton_append] at this
      rw [this, cntS_one a r]
      simp
    · rw [cntS_ne (by simp) (by simp [List.isPrefixOf]; exact fun e => h e.symm), cntS_one c r, List.count_cons_of_ne h]
theorem foldl_count (c : UInt8) : ∀ (l : List UInt8) (n : Int), l.foldl (fun n x => if x == c then n + 1 else n) n = n + l.count c
  | [], n => by simp
  | a :: l, n => by
    rw [List.foldl_cons, foldl_count c l, List.count_cons]
    cases a == c <;> simp <;> omega
theorem ext_count (l : List UInt8) (b : UInt8) (H : Heap) : vextern Tryd.prog 167 [roB l, bV b] H = some (iV (l.count b)) := by
  have hf := Tryd.func167
  have hr : extRow Tryd.f167.name = some Extern.BytealgCount.count := by kernel_rfl
  have hb : Tryd.f167.body = none := rfl
  have ho : Tryd.f167.origin = "" := rfl
  have hp : pureRun Tryd.prog (Extern.BytealgCount.count #[.string ⟨l.toArray⟩, .int .u8 (b.toNat : Int)]) = some (.int .i64 (l.count b)) := by
    rw [ct_eq]
    have e1 : Extern.Bytes.bytesOf (.string ⟨l.toArray⟩) = pure ⟨l.toArray⟩ := rfl
    have e2 : Extern.Bytes.asByte (.int .u8 (b.toNat : Int)) = pure b := by
      show (pure ((b.toNat : Int).toNat.toUInt8) : Sem UInt8) = pure b
      congr 1
      simp
    rw [e1, e2]
    show pureRun Tryd.prog (pure (goInt ((⟨l.toArray⟩ : ByteArray).foldl (fun n x => if x == b then n + 1 else n) ((0 : Nat) : Int)))) = _
    rw [Lib.foldl_data]
    show pureRun Tryd.prog (pure (goInt (l.foldl (fun n x => if x == b then n + 1 else n) ((0 : Nat) : Int)))) = _
    rw [foldl_count]
    show some (Value.int .i64 (((0 : Nat) : Int) + (l.count b : Int))) = _
    rw [show ((0 : Nat) : Int) + (l.count b : Int) = (l.count b : Int) by omega]
  simp only [vextern, hf, hb, ho, if_true, hr, bV, argB_roB]
  rw [hp]
  rfl
theorem count1_call (s : List UInt8) (c : UInt8) (hs : s.length ≤ 100000) (H : Heap) : VCall Tryd.prog 136 [roB s, roB [c]] H (fun v K => v = iV (cntS [c] s) ∧ K = H) := by
  rw [cntS_one]
  refine VCall.pure (by simp [nameless_roB]) (nameless_sc _) ?_
  refine VCall.go Tryd.func136 rfl ?_
  repeat' (first | with_reducible refine And.intro ?_ ?_ | ((with_reducible intro hc); (try simp only [zA, zB, zC, zD, zE, zF, zG, zH, zI, zJ, zK, zL, zM, zN, zO, zP, zQ, zR, zS, zT, zU, zV, zW] at hc); (first | (exact absurd rfl hc) | (exact absurd trivial hc) | (exfalso; omega) | skip)) | exact Is.mk rfl rfl | ((conv => whnf); first | with_reducible refine And.intro ?_ ?_ | with_reducible intro hx | exact Is.mk rfl rfl | (with_reducible first | apply Val.via | apply ValH.via) | refine ifB_intro ?_ ?_ | refine xA (by omega) ?_ | ((refine xB ?_); intro kw hk1 hk2) | refine xC (by omega) ?_ | refine xD ?_ | refine xE (by omega) ?_ | refine xF (by omega) ?_ | refine xG ?_ | refine xH ?_ | refine xI (by omega) ?_ | refine xJ (by omega) ?_ | (with_reducible refine stopA ?_) | refine Exists.intro _ (And.intro (by (first | exact vat_of vagg_u8 rfl (mul1 rfl rfl) | rfl)) ?_) | refine GOp.drawn (by rfl) (by rfl) (Nat.le_of_ble_eq_true (by rfl)) (by rfl) | refine GOp.via (by rfl) ?_ | refine GWP.drawY mixed _ (by kernel_rfl) (by rfl) ?_ | fail | (with_reducible first | refine stopO ?_ | refine stopE ?_ | refine stopD ?_ | refine stopW ?_ | refine stopG ?_ | refine stopC ?_ | refine stopR ?_)))
  (all_goals (first | omega | (rw [List.length_map]; done) | (rw [List.length_map]; omega) | (simp only [List.length_cons, List.length_nil]; omega) | skip))
  refine GExt'.via (ext_count s c _) ?_
  repeat' (first | with_reducible refine And.intro ?_ ?_ | ((with_reducible intro hc); (try simp only [zA, zB, zC, zD, zE, zF, zG, zH, zI, zJ, zK, zL, zM, zN, zO, zP, zQ, zR, zS, zT, zU, zV, zW] at hc); (first | (exact absurd rfl hc) | (exact absurd trivial hc) | (exfalso; omega) | skip)) | ((conv => whnf); first | with_reducible refine And.intro ?_ ?_ | refine ifB_intro ?_ ?_ | refine xA (by omega) ?_ | ((refine xB ?_); intro kw hk1 hk2) | refine xC (by omega) ?_ | refine xD ?_ | refine xE (by omega) ?_ | refine xF (by omega) ?_ | refine xG ?_ | refine xH ?_ | refine xI (by omega) ?_ | refine xJ (by omega) ?_ | (with_reducible refine stopA ?_) | refine Exists.intro _ (And.intro (by rfl) ?_) | refine GOp.via (by rfl) ?_ | (with_reducible first | refine stopO ?_ | refine stopE ?_ | refine stopD ?_ | refine stopW ?_ | refine stopG ?_ | refine stopC ?_ | refine stopR ?_)))
  exact Done'.mk rfl
theorem count_of (s p : List UInt8) (hp : 2 ≤ p.length) (hpl : p.length ≤ 1000) (hs : s.length ≤ 100000) (hidx : ∀ (x : List UInt8) H, x.length ≤ s.length → VCall Tryd.prog 149 [roB x, roB p] H (fun v K => v = iV (idxI p x) ∧ K = H)) (H : Heap) : VCall Tryd.prog 136 [roB s, roB p] H (fun v K => v = iV (cntS p s) ∧ K = H) := by
  have hp0 : p ≠ [] := fun e => by rw [e] at hp; simp at hp
  refine VCall.pure (by simp [nameless_roB]) (nameless_sc _) ?_
  refine VCall.go Tryd.func136 rfl ?_
  repeat' (first | with_reducible refine And.intro ?_ ?_ | ((with_reducible intro hc); (try simp only [zA, zB, zC, zD, zE, zF, zG, zH, zI, zJ, zK, zL, zM, zN, zO, zP, zQ, zR, zS, zT, zU, zV, zW] at hc); (first | (exact absurd rfl hc) | (exact absurd trivial hc) | (exfalso; omega) | skip)) | exact Is.mk rfl rfl | ((conv => whnf); first | with_reducible refine And.intro ?_ ?_ | with_reducible intro hx | exact Is.mk rfl rfl | (with_reducible first | apply Val.via | apply ValH.via) | refine ifB_intro ?_ ?_ | refine xA (by omega) ?_ | ((refine xB ?_); intro kw hk1 hk2) | refine xC (by omega) ?_ | refine xD ?_ | refine xE (by omega) ?_ | refine xF (by omega) ?_ | refine xG ?_ | refine xH ?_ | refine xI (by omega) ?_ | refine xJ (by omega) ?_ | (with_reducible refine stopA ?_) | refine Exists.intro _ (And.intro (by (first | exact vat_of rfl rfl rfl | rfl)) ?_) | refine GOp.drawn (by rfl) (by rfl) (Nat.le_of_ble_eq_true (by rfl)) (by rfl) | refine GOp.via (by rfl) ?_ | refine GWP.drawY mixed _ (by kernel_rfl) (by rfl) ?_ | fail | (with_reducible first | refine stopO ?_ | refine stopE ?_ | refine stopD ?_ | refine stopW ?_ | refine stopG ?_ | refine stopC ?_ | refine stopR ?_)))
  (all_goals (first | omega | (rw [List.length_map]; done) | (rw [List.length_map]; omega) | (simp only [List.length_cons, List.length_nil]; omega) | skip))
  (refine GWP'.mk (GWP.loopB [] (fun (a : Nat × List UInt8) => a.1 + a.2.length ≤ s.length ∧ a.1 + cntS p a.2 = cntS p s) (fun a => [(0, roB a.2), (5, iV a.1)]) (fun a => []) 0 (fun a => a.2.length) (0, s) ⟨by simp, by simp⟩ ?_); (conv => whnf); refine And.intro ?_ ?_)
  · focus (refine KeptA.of [] rfl rfl (by repeat' (first | exact trivial | refine And.intro rfl ?_)) rfl ?_ ?_; all_goals (repeat' (first | exact trivial | (refine And.intro ?_ ?_) | (refine Exists.intro _ (And.intro rfl ?_)) | (refine RenO.opt ?_) | (refine RenO.toOpt ?_) | (refine RenO.cells ?_) | exact RenO.defs | exact RenL.nil | (refine RenL.cons ?_ ?_) | (first | exact RenV.of (nameless_roB s) | (with_reducible exact RenV.sc) | exact RenV.gsN | exact RenV.gsZ | exact RenV.gsL (by decide) | exact RenV.slL (by decide) | ((first | refine RenV.gsE (by (first | exact List.Mem.head _ | exact List.Mem.tail _ (List.Mem.head _) | exact List.Mem.tail _ (List.Mem.tail _ (List.Mem.head _)) | (simp; done))) ?_ | refine RenV.eq (scI_eq ?_) (nameless_sc _)); (first | rfl | omega | (simp only [List.length_append, List.length_cons, List.length_nil, List.length_map, List.length_take, List.length_drop] <;> omega) | (simp only <;> omega) | (simp <;> omega))) | exact RenV.undef) | (with_unfolding_all exact (rfl : (_ : VObj) = _)))))
  rintro ⟨n, x⟩ ⟨h1, h2⟩
  simp only at h1 h2 ⊢
  have hix := fun H => hidx x H (by omega)
  rw [cntS_next hp0] at h2
  unfold idxI at hix
  cases hi : idxS p x with
  | none =>
    rw [hi] at hix h2
    simp only at hix h2
    repeat' (first | with_reducible refine And.intro ?_ ?_ | ((with_reducible intro hc); (try simp only [zA, zB, zC, zD, zE, zF, zG, zH, zI, zJ, zK, zL, zM, zN, zO, zP, zQ, zR, zS, zT, zU, zV, zW] at hc); (first | (exact absurd rfl hc) | (exact absurd trivial hc) | (exfalso; omega) | skip)) | exact Is.mk rfl rfl | ((conv => whnf); first | with_reducible refine And.intro ?_ ?_ | with_reducible intro hx | exact Is.mk rfl rfl | (with_reducible first | apply Val.via | apply ValH.via) | refine ifB_intro ?_ ?_ | refine xA (by omega) ?_ | ((refine xB ?_); intro kw hk1 hk2) | refine xC (by omega) ?_ | refine xD ?_ | refine xE (by omega) ?_ | refine xF (by omega) ?_ | refine xG ?_ | refine xH ?_ | refine xI (by omega) ?_ | refine xJ (by omega) ?_ | (with_reducible refine stopA ?_) | refine Exists.intro _ (And.intro (by (first | exact vat_of rfl rfl rfl | rfl)) ?_) | refine GOp.drawn (by rfl) (by rfl) (Nat.le_of_ble_eq_true (by rfl)) (by rfl) | refine GOp.via (by rfl) ?_ | refine GWP.drawY mixed _ (by kernel_rfl) (by rfl) ?_ | (refine GCall.mk ((hix _).mono ?_); rintro _ _ ⟨rfl, rfl⟩) | (with_reducible first | refine stopO ?_ | refine stopE ?_ | refine stopD ?_ | refine stopW ?_ | refine stopG ?_ | refine stopC ?_ | refine stopR ?_)))
    (all_goals (first | omega | (rw [List.length_map]; done) | (rw [List.length_map]; omega) | (simp only [List.length_cons, List.length_nil]; omega) | skip))
    rw [← h2]
    exact Done'.mk rfl
  | some i =>
    rw [hi] at hix h2
    simp only at hix h2
    have hle := (idxS_at hi).2
    have hdl : (x.drop (i + p.length)).length = x.length - (i + p.length) := List.length_drop
    have hsl : VV.ro (x.length - ((i : Int) + (p.length : Int)).toNat) (((x.map bV).drop (((i : Int) + (p.length : Int)).toNat * 1)).take ((x.length - ((i : Int) + (p.length : Int)).toNat) * 1)) = roB (x.drop (i + p.length)) := by
      rw [show ((i : Int) + (p.length : Int)).toNat = i + p.length by omega, Nat.mul_one, Nat.mul_one, ← List.map_drop, List.take_of_length_le (by simp)]
      unfold roB
      rw [List.length_drop]
    repeat' (first | with_reducible refine And.intro ?_ ?_ | ((with_reducible intro hc); (try simp only [zA, zB, zC, zD, zE, zF, zG, zH, zI, zJ, zK, zL, zM, zN, zO, zP, zQ, zR, zS, zT, zU, zV, zW] at hc); (first | (exact absurd rfl hc) | (exact absurd trivial hc) | (exfalso; omega) | skip)) | exact Is.mk rfl rfl | ((conv => whnf); first | with_reducible refine And.intro ?_ ?_ | with_reducible intro hx | exact Is.mk rfl rfl | (with_reducible first | apply Val.via | apply ValH.via) | refine ifB_intro ?_ ?_ | refine xA (by omega) ?_ | ((refine xB ?_); intro kw hk1 hk2) | refine xC (by omega) ?_ | refine xD ?_ | refine xE (by omega) ?_ | refine xF (by omega) ?_ | refine xG ?_ | refine xH ?_ | refine xI (by omega) ?_ | refine xJ (by omega) ?_ | (with_reducible refine stopA ?_) | refine Exists.intro _ (And.intro (by (first | exact vat_of rfl rfl rfl | rfl)) ?_) | refine GOp.drawn (by rfl) (by rfl) (Nat.le_of_ble_eq_true (by rfl)) (by rfl) | refine GOp.via (by rfl) ?_ | refine GWP.drawY mixed _ (by kernel_rfl) (by rfl) ?_ | (refine GCall.mk ((hix _).mono ?_); rintro _ _ ⟨rfl, rfl⟩) | (with_reducible first | refine stopO ?_ | refine stopE ?_ | refine stopD ?_ | refine stopW ?_ | refine stopG ?_ | refine stopC ?_ | refine stopR ?_)))
    (all_goals (first | omega | (rw [List.length_map]; done) | (rw [List.length_map]; omega) | (simp only [List.length_cons, List.length_nil]; omega) | skip))
    focus (refine Done'.mk ⟨(n + 1, x.drop (i + p.length)), ⟨by simp only [List.length_drop]; omega, by simp only; omega⟩, ?_, KeptA.of [] rfl rfl (by repeat' (first | exact trivial | refine And.intro rfl ?_)) rfl ?_ ?_⟩; (first | omega | (simp only; omega)); all_goals (repeat' (first | exact trivial | (refine And.intro ?_ ?_) | (refine Exists.intro _ (And.intro rfl ?_)) | (refine RenO.opt ?_) | (refine RenO.toOpt ?_) | (refine RenO.cells ?_) | exact RenO.defs | exact RenL.nil | (refine RenL.cons ?_ ?_) | (first | (first | exact RenV.eq hsl (nameless_roB _) | exact RenV.eq (scI_eq (by omega)) (nameless_sc _)) | (with_reducible exact RenV.sc) | exact RenV.gsN | exact RenV.gsZ | exact RenV.gsL (by decide) | exact RenV.slL (by decide) | ((first | refine RenV.gsE (by (first | exact List.Mem.head _ | exact List.Mem.tail _ (List.Mem.head _) | exact List.Mem.tail _ (List.Mem.tail _ (List.Mem.head _)) | (simp; done))) ?_ | refine RenV.eq (scI_eq ?_) (nameless_sc _)); (first | rfl | omega | (simp only [List.length_append, List.length_cons, List.length_nil, List.length_map, List.length_take, List.length_drop] <;> omega) | (simp only <;> omega) | (simp <;> omega))) | exact RenV.undef) | (with_unfolding_all exact (rfl : (_ : VObj) = _)))))
theorem countS_call (s p : List UInt8) (hp : p ≠ []) (hpl : p.length ≤ 100) (hs : s.length ≤ 100000) (H : Heap) : VCall Tryd.prog 136 [roB s, roB p] H (fun v K => v = iV (cntS p s) ∧ K = H) := by
  by_cases h1 : p.length = 1
  · obtain ⟨c, rfl⟩ := List.length_eq_one_iff.1 h1
    exact count1_call s c hs H
  · have := List.length_pos_iff.2 hp
    exact count_of s p (by omega) (by omega) hs (fun x H hx => indexS_call x p hp (by omega) (by omega) H) H
/-- ReplaceAll, of any slices that stay as they are. -/
theorem replaceAll_call {old new s : List UInt8} (hk : old ≠ []) (hnw : new ≠ []) (hs : s.length ≤ 100000) (ho : old.length ≤ 100) (hn : new.length ≤ old.length) {H : Heap} {u v w : VV} (hu : View H u (roB s)) (hv : View H v (roB old)) (hw : View H w (roB new)) : VCall Tryd.prog 118 [u, v, w] H (fun x K => x = roB (repS old new s) ∧ K = H) := by
  refine replaceAll_of hk hnw hs ho (by omega) ?_ (fun H => countS_call s old hk ho hs H) (fun x H hx => indexS_call x old hk (by omega) (by omega) H) hu hv hw
  have h1 := repS_len (x := new) hk _ s (Nat.le_refl _)
  have h2 : (cntS old s : Int) * ((new.length : Int) - (old.length : Int)) ≤ 0 := Int.mul_nonpos_of_nonneg_of_nonpos (by omega) (by omega)
  omega
end Go.Proofs.YtmmjgbdihgdekaaDoor

/- pairs.plain and pairs.coded, walked. -/
namespace Go.Proofs.YtmmjgbdihgdekaaDoor
open Go Go.RowKit
set_option linter.unusedSimpArgs false
set_option linter.unusedVariables false
set_option maxRecDepth 100000
set_option maxHeartbeats 4000000
theorem view_row {l : List UInt8} {n b : Nat} {c : Option Nat} {H : Heap} (hg : H.get b = some (.cells true (l.map bV))) (hn : n = l.length) : View H (.sl b 0 n c 1) (roB l) := by
  subst hn
  have := View.sl (H := H) (b := b) (o := 0) (n := l.length) (z := 1) (c := c) hg (by simp) (nameless_map nameless_bV l)
  rw [List.drop_zero, Nat.mul_one, List.take_of_length_le (by simp)] at this
  exact this
theorem subB_len (a b : UInt8) (l : List UInt8) : (subB a b l).length = l.length := by unfold subB; rw [List.length_map]
theorem plain_call (l : List UInt8) (hl : l.length ≤ 20000) (H : Heap) : VCall Tryd.prog 74 [roB l] H (fun v K => v = dcV (plainB l) ∧ K = H) := by
  have hn : Nameless (dcV (plainB l)) := by
    unfold dcV
    split <;> exact nameless_tp (by simp [nameless_roB, iV, nameless_sc, show Nameless (.ro 0 []) from nameless_roB []])
  refine VCall.frozen (Q := fun v K => v = dcV (plainB l)) (by simp [nameless_roB]) ?_ (fun v K h => Frz.eq h hn)
  have hr := fun (H : Heap) (h0 : H.get 0 = some (.cells true [bV 43])) (h1 : H.get 1 = some (.cells true [bV 32])) => replaceAll_call (old := [43]) (new := [32]) (s := l) (H := H) (by simp) (by simp) (by omega) (by simp) (by simp) (View.of (nameless_roB l)) (view_row (l := [43]) (n := 1) (b := 0) (c := some 1) h0 rfl) (view_row (l := [32]) (n := 1) (b := 1) (c := some 1) h1 rfl)
  rw [repS_one] at hr
  have hd := fun H => decode_call (subB 43 32 l) (by rw [subB_len]; omega) H
  refine VCall.go Tryd.func74 rfl ?_
  unfold plainB
  cases hp : dcB (subB 43 32 l) with
  | none =>
    rw [hp] at hd
    repeat' (first | with_reducible refine And.intro ?_ ?_ | ((with_reducible intro hc); (try simp only [zA, zB, zC, zD, zE, zF, zG, zH, zI, zJ, zK, zL, zM, zN, zO, zP, zQ, zR, zS, zT, zU, zV, zW] at hc); (first | (exact absurd rfl hc) | (exact absurd trivial hc) | (exfalso; omega) | skip)) | exact Is.mk rfl rfl | ((conv => whnf); first | with_reducible refine And.intro ?_ ?_ | with_reducible intro hx | exact Is.mk rfl rfl | (with_reducible first | apply Val.via | apply ValH.via) | refine ifB_intro ?_ ?_ | refine xA (by omega) ?_ | ((refine xB ?_); intro kw hk1 hk2) | refine xC (by omega) ?_ | refine xD ?_ | refine xE (by omega) ?_ | refine xF (by omega) ?_ | refine xG ?_ | refine xH ?_ | refine xI (by omega) ?_ | refine xJ (by omega) ?_ | (with_reducible refine stopA ?_) | refine Exists.intro _ (And.intro (by (first | exact vat_of rfl rfl rfl | rfl)) ?_) | refine GOp.drawn (by rfl) (by rfl) (Nat.le_of_ble_eq_true (by rfl)) (by rfl) | refine GOp.via (by rfl) ?_ | refine GWP.drawY mixed _ (by kernel_rfl) (by rfl) ?_ | (first | (refine GCall.mk ((hr _ rfl rfl).mono ?_); rintro _ _ ⟨rfl, rfl⟩) | (refine GCall.mk ((hd _).mono ?_); rintro _ _ ⟨rfl, rfl⟩)) | (with_reducible first | refine stopO ?_ | refine stopE ?_ | refine stopD ?_ | refine stopW ?_ | refine stopG ?_ | refine stopC ?_ | refine stopR ?_)))
    (all_goals (first | omega | (rw [List.length_map]; done) | (rw [List.length_map]; omega) | (simp only [List.length_cons, List.length_nil]; omega) | skip))
    exact Done'.mk rfl
  | some x =>
    rw [hp] at hd
    repeat' (first | with_reducible refine And.intro ?_ ?_ | ((with_reducible intro hc); (try simp only [zA, zB, zC, zD, zE, zF, zG, zH, zI, zJ, zK, zL, zM, zN, zO, zP, zQ, zR, zS, zT, zU, zV, zW] at hc); (first | (exact absurd rfl hc) | (exact absurd trivial hc) | (exfalso; omega) | skip)) | exact Is.mk rfl rfl | ((conv => whnf); first | with_reducible refine And.intro ?_ ?_ | with_reducible intro hx | exact Is.mk rfl rfl | (with_reducible first | apply Val.via | apply ValH.via) | refine ifB_intro ?_ ?_ | refine xA (by omega) ?_ | ((refine xB ?_); intro kw hk1 hk2) | refine xC (by omega) ?_ | refine xD ?_ | refine xE (by omega) ?_ | refine xF (by omega) ?_ | refine xG ?_ | refine xH ?_ | refine xI (by omega) ?_ | refine xJ (by omega) ?_ | (with_reducible refine stopA ?_) | refine Exists.intro _ (And.intro (by (first | exact vat_of rfl rfl rfl | rfl)) ?_) | refine GOp.drawn (by rfl) (by rfl) (Nat.le_of_ble_eq_true (by rfl)) (by rfl) | refine GOp.via (by rfl) ?_ | refine GWP.drawY mixed _ (by kernel_rfl) (by rfl) ?_ | (first | (refine GCall.mk ((hr _ rfl rfl).mono ?_); rintro _ _ ⟨rfl, rfl⟩) | (refine GCall.mk ((hd _).mono ?_); rintro _ _ ⟨rfl, rfl⟩)) | (with_reducible first | refine stopO ?_ | refine stopE ?_ | refine stopD ?_ | refine stopW ?_ | refine stopG ?_ | refine stopC ?_ | refine stopR ?_)))
    (all_goals (first | omega | (rw [List.length_map]; done) | (rw [List.length_map]; omega) | (simp only [List.length_cons, List.length_nil]; omega) | skip))
    exact Done'.mk rfl
end Go.Proofs.YtmmjgbdihgdekaaDoor

