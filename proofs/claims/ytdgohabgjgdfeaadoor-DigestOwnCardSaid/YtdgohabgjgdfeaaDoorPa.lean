import Derived.Test.YtdgohabgjgdfeaaDoorVd
import Derived.Test.YtdgohabgjgdfeaaDoorVf
import Derived.Test.YtdgohabgjgdfeaaDoorVh
import Derived.Lib.RowBridge
import Derived.Sort.Grow
import Derived.Test.YtdgohabgjgdfeaaDoorVi
import Derived.Test.YtdgohabgjgdfeaaDoorB8
import Derived.Test.YtdgohabgjgdfeaaDoorSg
import Derived.Test.YtdgohabgjgdfeaaDoorS5
/- all over Fields: the pieces without blanks. -/
namespace Go.Proofs.YtdgohabgjgdfeaaDoor
open Go Go.RowKit
set_option linter.unusedSimpArgs false
set_option linter.unusedVariables false
set_option maxRecDepth 100000
set_option maxHeartbeats 4000000
def blankB (b : UInt8) : Bool := b == 32 || b == 9
def fieldsGo : List UInt8 → List UInt8 → List (List UInt8)
  | [], cur => if cur.length = 0 then [] else [cur]
  | b :: r, cur => if blankB b then (if cur.length = 0 then fieldsGo r [] else cur :: fieldsGo r []) else fieldsGo r (cur ++ [b])
/-- The pieces without blanks. -/
def fieldsB (l : List UInt8) : List (List UInt8) := fieldsGo l []
def fieldsV (l : List UInt8) : VV := .fn (.func 114) [] [.rp [roB l] 0]
theorem nameless_fieldsV (l : List UInt8) : Nameless (fieldsV l) := nameless_fn (by simp) (by
  simp only [List.mem_singleton, forall_eq]
  exact nameless_rp (by simp [nameless_roB]))
theorem fields_call (l : List UInt8) (H : Heap) (hl : l.length ≤ 140737488355328) : VCall Tryd.prog 66 [roB l] H (fun x K => x = fieldsV l ∧ K = H) := by
  refine VCall.frozen (Q := fun v K => Frz K v (fieldsV l)) (by simp [nameless_roB]) ?_ (fun v K h => h)
  refine VCall.go Tryd.func66 rfl ?_
  repeat' (first | (with_reducible refine And.intro ?_ ?_) | ((with_reducible intro hc); (try simp only [leZ_eq, ltZ_eq, eqZ_eq, str_size, str_list, str_nil, List.toList_toArray, decide_eq_true_eq, decide_eq_false_iff_not, beq_iff_eq, bne_iff_ne, beq_eq_false_iff_ne, bne_eq_false_iff_eq, ne_eq, Bool.not_eq_true', Bool.not_eq_false', Bool.not_true, Bool.not_false, gt_iff_lt, ge_iff_le, Int.not_lt, Int.not_le, Decidable.not_not] at hc); (first | (exact absurd rfl hc) | (exact absurd trivial hc) | (exfalso; omega) | skip)) | ((conv => whnf); first | (with_reducible refine And.intro ?_ ?_) | (refine ifB_intro (fun hc => ?_) (fun hc => ?_) <;> (try simp only [leZ_eq, ltZ_eq, eqZ_eq, str_size, str_list, str_nil, List.toList_toArray, decide_eq_true_eq, decide_eq_false_iff_not, beq_iff_eq, bne_iff_ne, beq_eq_false_iff_ne, bne_eq_false_iff_eq, ne_eq, Bool.not_eq_true', Bool.not_eq_false', Bool.not_true, Bool.not_false, gt_iff_lt, ge_iff_le, Int.not_lt, Int.not_le, Decidable.not_not] at hc) <;> (first | (exact absurd rfl hc) | (exact absurd trivial hc) | (exfalso; omega) | skip)) | (refine GAr.i64 (by omega) ?_) | ((refine GAr.i64w ?_); intro kw hk1 hk2) | (refine GAr.u8s (by omega) ?_) | (refine GAr.u8 ?_) | (refine GAr.u64s (by omega) ?_) | (refine GAr.u32s (by omega) ?_) | (refine GAr.u64 ?_) | (refine GAr.u32 ?_) | (refine GQuo.i64 (by omega) ?_) | (refine GRem.pos (by omega) ?_) | (with_reducible refine stopA ?_) | (refine Exists.intro _ (And.intro (by (first | rfl)) ?_)) | (refine GOp.via (by rfl) ?_) | (with_reducible refine stopO ?_) | (with_reducible refine stopE ?_) | (with_reducible refine stopD ?_) | (with_reducible refine stopW ?_) | (with_reducible refine stopG ?_) | (first | (refine GCall.mk ((clone_call l _ hl).mono ?_); rintro _ _ ⟨rfl, rfl⟩)) | (with_reducible refine stopC ?_) | (with_reducible refine stopR ?_)))
  exact Done'.mk (Frz.fn .nil (.cons (Frz.ptr (vs := [roB l]) rfl (FrzL.of (by simp [nameless_roB]))) .nil))
theorem blank_call (b : UInt8) (H : Heap) : VCall Tryd.prog 116 [bV b] H (fun x K => x = booV (blankB b) ∧ K = H) :=
  VCall.bytes mixed 60 blankB (by kernel_rfl) b H
theorem cut_next {l : List UInt8} {at_ i : Nat} {c : UInt8} (h : l[i]? = some c) (ha : at_ ≤ i) : (l.drop at_).take (i + 1 - at_) = (l.drop at_).take (i - at_) ++ [c] := by
  obtain ⟨hi, e⟩ := List.getElem?_eq_some_iff.1 h
  rw [show i + 1 - at_ = (i - at_) + 1 by omega, List.take_succ_eq_append_getElem (by simp; omega)]
  congr 1
  simp only [List.getElem_drop]
  congr 1
  rw [← e]
  congr 1
  omega
theorem fieldsGo_at {c : UInt8} {l : List UInt8} {i : Nat} (h : l[i]? = some c) (cur : List UInt8) : fieldsGo (l.drop i) cur = if blankB c then (if cur.length = 0 then fieldsGo (l.drop (i + 1)) [] else cur :: fieldsGo (l.drop (i + 1)) []) else fieldsGo (l.drop (i + 1)) (cur ++ [c]) := by
  obtain ⟨hi, e⟩ := List.getElem?_eq_some_iff.1 h
  rw [List.drop_eq_getElem_cons hi, e]
  rfl
theorem frz_gsS1 {K : Heap} {b : Nat} {d : List (List UInt8)} (hg : K.get b = some (.opt (d.map strV))) : Frz K (.gs b d.length 1) (roS d) := Frz.gs hg (by simp) (nameless_map nameless_strV d)
theorem frz_gsS2 {K : Heap} {b : Nat} {d : List (List UInt8)} {x : List UInt8} (hg : K.get b = some (.opt (d.map strV ++ [strV x]))) : Frz K (.gs b (d.length + 1) 1) (roS (d ++ [x])) := by
  have : (d ++ [x]).map strV = d.map strV ++ [strV x] := by simp
  rw [← this] at hg
  have h := frz_gsS1 hg
  rwa [List.length_append] at h
end Go.Proofs.YtdgohabgjgdfeaaDoor

/- A contract of the kit that rewrites a row in place, as a call of the walk. Over any program. -/
namespace Go.Proofs.YtdgohabgjgdfeaaDoor
open Go Go.RowKit Go.Sort
set_option linter.unusedSimpArgs false
set_option linter.unusedVariables false
theorem VCall.row {P : Program} {f : FuncId} {H : Heap} {b n : Nat} {c : Option Nat} {α : Type} [Inhabited α] (enc : α → Value) (encV : α → VV) (hto : ∀ x w Z ρ, VRel w Z ρ (encV x) (enc x)) (hinv : ∀ x w Z ρ y, VRel w Z ρ (encV x) y → y = enc x)
    (zs ys : List α) (hl : ys.length = zs.length) (hg : H.get b = some (.cells true (zs.map encV))) (hn : n = zs.length) (res : Nat → Nat → Value) (rv : VV)
    (hres : ∀ k c' w Z ρ, VRel w Z ρ (.sl b 0 n c 1) (.slice (some ⟨k, 0, none⟩) n c') → VRel w Z ρ rv (res k c'))
    (h : ∀ k c' w, Holds enc w k 0 zs.toArray → k < w.heap.size → zs.length ≤ c' → Calls P f #[.slice (some ⟨k, 0, none⟩) zs.length c'] w fun e w' => e = .returned (res k c') ∧ ∃ m os, w' = grow (putRow enc (Sort.ahead w m) k 0 ys.toArray) os) :
    VCall P f [.sl b 0 n c 1] H (fun v K => v = rv ∧ K = H.set b (.cells true (ys.map encV))) := fun B M Z ρ w ra h1 h2 => by
  obtain ⟨hlen, hrel2⟩ := h2
  match hra : ra.toList, hlen with
  | [y], _ =>
    have hv := hrel2 0 _ y rfl (by rw [hra]; rfl)
    obtain rfl : ra = #[y] := by
      cases ra
      simp only at hra
      rw [hra]
    cases hv with
    | @sl _ _ _ k N c' _ _ hk hcap hc hz =>
      obtain ⟨k', N', cs, t, fr, g1, g2, g3, g4, g5⟩ := h1.at_ hg
      rw [hk] at g1; injection g1 with g1; injection g1 with g1 g1'; subst g1 g1'
      subst hn
      have hgl := g4.length
      simp only [List.length_map, Array.length_toList] at hgl
      have hcell : ∀ j (hj : j < zs.length), cs[j]? = some (enc zs[j]) := fun j hj => by
        obtain ⟨c0, hc0, hr0⟩ := g4 j (encV zs[j]) (by rw [List.getElem?_map, List.getElem?_eq_getElem hj]; rfl)
        rw [hinv _ _ _ _ _ hr0] at hc0
        simpa using hc0
      have hH : Holds enc w k 0 zs.toArray := fun j hj => by
        have hj' : j < zs.length := by simpa using hj
        refine ⟨?_, ?_⟩
        · rw [Nat.zero_add, cell_of_cells g2, hcell j hj']
          congr 2
          rw [getElem!_pos zs.toArray j hj]
          simp
        · rw [Nat.zero_add, frozen_of_cells g2]
          exact nofr g5 (by omega)
      refine (h k c' w hH (h1.lt hg hk) hcap).mono ?_
      rintro e w' ⟨rfl, m, os, rfl⟩
      have e1 := Lib.putRow_eq_setCells enc w k 0 zs.toArray ys m hH (by simpa using hl)
      rw [e1]
      obtain ⟨s1, s2, s3, s4, s5, s6⟩ := heap_setCells k t fr (ys.map enc) 0 (w.drewN m) cs g2
      have hsize : (setRun cs.toList 0 (ys.map enc)).length = cs.size := by rw [length_setRun]; simp
      obtain ⟨x1, r1⟩ := h1.turn (y := .cells true (ys.map encV)) hg hk rfl rfl s4 s5 s6 s3 s2 s1 ⟨_, t, fr, rfl, by simpa using hsize.trans g3, (fun i u hu => by
        have hi : i < ys.length := by
          have := (List.getElem?_eq_some_iff.1 hu).1
          simpa using this
        rw [List.getElem?_map, List.getElem?_eq_getElem hi] at hu
        injection hu with hu
        subst hu
        refine ⟨enc ys[i], ?_, hto _ _ _ _⟩
        show (setRun cs.toList 0 (ys.map enc))[i]? = _
        rw [getElem?_setRun _ _ _ _ (by simp; omega), if_pos (by simp; omega), Nat.sub_zero, List.getElem?_map, List.getElem?_eq_getElem hi]
        rfl), g5⟩
      obtain ⟨x2, r2⟩ := r1.step (Z' := Z) (w' := grow ((w.drewN m).setCells k 0 (ys.map enc)) os) rfl rfl rfl (by show _ ≤ (_ ++ os).size; simp) (fun j hj => by show (_ ++ os)[j]? = _; rw [Array.getElem?_append_left hj]) (fun _ h => h) (fun _ h => .inl h)
      exact ⟨res k c', rv, _, Z, ρ, rfl, ⟨rfl, rfl⟩, x1.trans x2, r2, hres _ _ _ _ _ (.sl hk hcap hc hz)⟩
theorem restO_nil : ∀ (O : List (Nat × VObj)), restO [] O = O
  | [] => rfl
  | (a, b) :: r => by simp [restO, memN, restO_nil r]
theorem beqN_ne {x y : Nat} (h : x ≠ y) : Nat.beq x y = false := by
  cases hh : Nat.beq x y
  · rfl
  · exact absurd (Nat.eq_of_beq_eq_true hh) h
theorem memN_dom {O : List (Nat × VObj)} {b : Nat} (h : memN b (O.map (·.1)) = true) : ∃ x, hget O b = some x := by
  have key : ∀ (O : List (Nat × VObj)), b ∈ O.map (·.1) → ∃ x, hget O b = some x := by
    intro O
    induction O with
    | nil => intro h; simp at h
    | cons p r ih =>
      obtain ⟨k, x⟩ := p
      intro h
      rw [hget_cons]
      split
      · exact ⟨_, rfl⟩
      · rename_i hne
        rcases List.mem_cons.1 h with e | h
        · exact absurd e.symm hne
        · exact ih h
  exact key O (memN_iff.1 h)
/-- A call with plain arguments that hands back a slice of a block of its own. -/
theorem VCall.newG {P : Program} {f : FuncId} {args : List VV} {n z : Nat} {vs : List VV} (ha : ∀ v ∈ args, Nameless v) (hn : ∀ v ∈ vs, Nameless v) (h : VCall P f args ⟨[], 0⟩ (fun v K => v = .gs 0 n z ∧ K = ⟨[(0, .opt vs)], 1⟩)) (H : Heap) :
    VCall P f args H (fun v K => v = .gs H.next n z ∧ K = ⟨(H.next, .opt vs) :: H.objs, H.next + 1⟩) := by
  refine VCall.live fun hlive => ?_
  refine VCall.at (n1 := 0) (O1 := []) [] [] rfl trivial (RenL.of ha) h ?_
  rintro v K ⟨rfl, rfl⟩
  have e3 : Nat.blt H.next (H.next + 1) = true := blt_iff.2 (by omega)
  have s1 : srcOf [(0, H.next)] 0 H.next = some 0 := by simp only [srcOf0, srcN, Nat.beq_refl]
  refine ⟨.gs H.next n z, [(H.next, .opt vs)], ⟨?_, .gs (List.Mem.head _), ?_⟩, ?_, rfl, ?_⟩
  · show (wfR 0 (H.next + 1) [(0, H.next)] && nodupB (ksOf [(0, H.next)] 0 [(H.next, VObj.opt vs)]) && ((srcN [(0, H.next)] H.next).isSome && true) && (true && true)) = true
    have s1' := (srcOf0 _ _).symm.trans s1
    simp only [ksOf, s1, s1']
    simp only [wfR, srcN, e3]
    rfl
  · refine ⟨?_, trivial⟩
    show (match srcOf [(0, H.next)] 0 H.next with
      | some a => _
      | none => _)
    rw [s1]
    exact ⟨_, rfl, .opt (.of hn)⟩
  · have k3 : memN H.next ((restO [] H.objs).map (·.1)) = false := by
      cases hc : memN H.next ((restO [] H.objs).map (·.1)) with
      | false => rfl
      | true =>
        rw [restO_nil] at hc
        obtain ⟨x, hx⟩ := memN_dom hc
        have := hlive _ _ hx
        omega
    simp only [List.all_cons, List.all_nil, k3]
    rfl
  · rw [restO_nil]; rfl
/-- A contract at a slice without elements that leaves the world as it is. -/
theorem VCall.emp {P : Program} {f : FuncId} {H : Heap} (res : Option Addr → Nat → Value) (rv : VV) (hres : ∀ p c w Z ρ, VRel w Z ρ rv (res p c)) (h : ∀ p c w, Calls P f #[.slice p 0 c] w fun e w' => e = .returned (res p c) ∧ w' = w) : VCall P f [.ro 0 []] H (fun v K => v = rv ∧ K = H) := fun B M Z ρ w ra h1 h2 => by
  obtain ⟨hlen, hrel2⟩ := h2
  match hra : ra.toList, hlen with
  | [y], _ =>
    have hv := hrel2 0 _ y rfl (by rw [hra]; rfl)
    obtain rfl : ra = #[y] := by
      cases ra
      simp only at hra
      rw [hra]
    have : ∃ p c, y = .slice p 0 c := by
      cases hv with
      | ro => exact ⟨_, _, rfl⟩
      | ro0 => exact ⟨_, _, rfl⟩
    obtain ⟨p, c, rfl⟩ := this
    refine (h p c w).mono ?_
    rintro e w' ⟨rfl, rfl⟩
    exact ⟨_, rv, H, Z, ρ, rfl, ⟨rfl, rfl⟩, Ext.refl _ _ _ _, h1, hres _ _ _ _ _⟩
theorem VCall.argV {P : Program} {f : FuncId} {args args' : List VV} {H : Heap} {Q : VV → Heap → Prop} (hw : ∀ w Z ρ cs, Pw (VRel w Z ρ) args cs → Pw (VRel w Z ρ) args' cs) (h : VCall P f args' H Q) : VCall P f args H Q :=
  fun B M Z ρ w ra h1 h2 => h B M Z ρ w ra h1 (hw _ _ _ _ h2)
theorem weak_one {v u : VV} (h : ∀ w Z ρ y, VRel w Z ρ v y → VRel w Z ρ u y) : ∀ w Z ρ cs, Pw (VRel w Z ρ) [v] cs → Pw (VRel w Z ρ) [u] cs := fun w Z ρ cs hp => by
  refine ⟨hp.1, fun i a x hu hx => ?_⟩
  cases i with
  | zero =>
    simp at hu
    subst hu
    exact h _ _ _ _ (hp.2 0 _ x rfl hx)
  | succ i => simp at hu
theorem weak_gsE {b z : Nat} {w : World} {Z : Nat → Prop} {ρ : Nat → Option (Nat × Nat)} {y : Value} (h : VRel w Z ρ (.gs b 0 z) y) : VRel w Z ρ (.ro 0 []) y := by
  cases h with
  | gs0 => exact .ro0
  | gs _ _ _ h0 => exact absurd rfl h0
theorem weak_gsS {b n z : Nat} (hn : n ≠ 0) {w : World} {Z : Nat → Prop} {ρ : Nat → Option (Nat × Nat)} {y : Value} (h : VRel w Z ρ (.gs b n z) y) : VRel w Z ρ (.sl b 0 n none z) y := by
  cases h with
  | gs0 => exact absurd rfl hn
  | gs hk hcap hz h0 => exact .sl hk hcap (fun _ e => by cases e) (fun _ => by omega)
/-- A slice that is not empty, and its block: known whole. -/
theorem VCall.gsC {P : Program} {f : FuncId} {H : Heap} {Q : VV → Heap → Prop} {b n z : Nat} {vs : List VV} (hg : H.get b = some (.opt vs)) (hn : n ≠ 0) (h : VCall P f [.sl b 0 n none z] (H.set b (.cells true vs)) Q) : VCall P f [.gs b n z] H Q :=
  fun B M Z ρ w ra h1 h2 => by
    obtain ⟨hlen, hrel⟩ := h2
    match hra : ra.toList, hlen with
    | [y], _ =>
      have hv := hrel 0 _ y rfl (by rw [hra]; rfl)
      cases hv with
      | gs0 => exact absurd rfl hn
      | gs hk hcap hz h0 =>
        refine h B M Z ρ w ra (h1.toCells hg hk) (weak_one (fun w Z ρ y => weak_gsS hn) _ _ _ _ ⟨by rw [hra]; rfl, fun i u x hu hx => ?_⟩)
        rw [hra] at hx
        cases i with
        | zero =>
          simp at hu hx
          subst hu hx
          exact .gs hk hcap hz h0
        | succ i => simp at hu
theorem GWP'.weakT {P : Program} {r : Option Nat} {c : Code} {Q : Exit → VSt → Prop} {ts : List VV} {H : Heap} {m : List Nat} {v u : VV} (i : Nat) (hi : ts[i]? = some v) (hw : ∀ w Z ρ y, VRel w Z ρ v y → VRel w Z ρ u y) (h : GWP P r c Q ⟨ts.set i u, H, m⟩) : GWP' P r c Q ⟨ts, H, m⟩ :=
  ⟨⟨VWP.weaken (s := ⟨ts, H, m⟩) (s1 := ⟨ts.set i u, H, m⟩) rfl rfl (fun _ _ h => h) (fun w Z ρ cs hp => ⟨by have := hp.1; simpa using this, fun j x y hx hy => by
    by_cases e : i = j
    · subst e
      have hl := (List.getElem?_eq_some_iff.1 hi).1
      have hx : (ts.set i u)[i]? = some x := hx
      rw [List.getElem?_set_self hl] at hx
      injection hx with hx
      subst hx
      exact hw _ _ _ _ (hp.2 i v y hi hy)
    · have hx : (ts.set i u)[j]? = some x := hx
      rw [List.getElem?_set_ne e] at hx
      exact hp.2 j x y hx hy⟩) h.out⟩⟩
/-- A part of a slice, known by what append reads of it. -/
theorem GOp'.slV {P : Program} {o : Oper} {ts : List VV} {H : Heap} {K : VV → Heap → Prop} {t e : TypeId} {x : Operand} {lo hi : Option Operand} {b n l h : Nat} {vs : List VV} (ho : o.op = .slice t x lo hi none) (hu : P.underlying t = some (.slice e)) (hz : vsize P e = some 1) (hx : veval ts x = .sl b 0 n none 1) (hb : vbounds n n (lo.map (veval ts)) (hi.map (veval ts)) none = some (l, h, none)) (hlh : l ≤ h) (hh : h ≤ n) (hlen : vs.length = n)
    (k : ∀ u, ((∃ q m, u = .sl b q m none 1) ∨ u = .ro 0 []) → (∀ H' : Heap, H'.get b = some (.cells true vs) → velems 1 u H' = some (h - l, (vs.drop l).take (h - l))) → K u H) : GOp' P o ts H K := by
  have hel : ∀ q : Nat, ∀ H' : Heap, H'.get b = some (.cells true vs) → q = l → velems 1 (.sl b q (h - l) none 1) H' = some (h - l, (vs.drop l).take (h - l)) := fun q H' hg e => by
    subst e
    simp only [velems, hg]
    rw [if_pos (by omega), Nat.mul_one]
  by_cases h0 : l = 0
  · subst h0
    refine GOp'.via (v := .sl b 0 h none 1) (H' := H) ?_ (k _ (.inl ⟨_, _, rfl⟩) fun H' hg => hel 0 H' hg rfl)
    simp only [vop, ho, hx]
    simp [vslice, hu, hz, hb]
    rfl
  · by_cases hl : l = h
    · subst hl
      refine GOp'.via (v := .ro 0 []) (H' := H) ?_ (k _ (.inr rfl) fun H' hg => by simp [velems])
      simp only [vop, ho, hx]
      simp [vslice, hu, hz, hb, h0]
      rfl
    · refine GOp'.via (v := .sl b (0 + l * 1) (h - l) none 1) (H' := H) ?_ (k _ (.inl ⟨_, _, rfl⟩) fun H' hg => hel _ H' hg (by omega))
      simp only [vop, ho, hx]
      simp [vslice, hu, hz, hb, h0, show ¬ h = l by omega]
      rfl
theorem Frz.ag {K : Heap} : ∀ {vs us : List VV}, FrzL K vs us → Frz K (.ag vs) (.ag us) := fun {vs us} h B w Z ρ ρ2 y hr hv => by
  cases hv with
  | @ag _ cs h1 r1 =>
    obtain ⟨cs⟩ := cs
    simp only at h1 r1
    have key : ∀ {vs us : List VV} {cs : List Value}, FrzL K vs us → Pw (VRel w Z ρ) vs cs → Pw (VRel w (fun k => Z k ∨ (B.heap.size ≤ k ∧ k < w.heap.size)) ρ2) us cs := by
      intro vs us cs h
      induction h generalizing cs with
      | nil => intro hp; exact ⟨hp.1, fun i u c hu => by simp at hu⟩
      | @cons v u r s hvu _ ih =>
        intro hp
        match cs, hp with
        | c :: ct, hp =>
          have h0 := hp.2 0 v c rfl rfl
          have ht : Pw (VRel w Z ρ) r ct := ⟨by have := hp.1; simpa using this, fun i u c hu hc => hp.2 (i + 1) u c (by simpa using hu) (by simpa using hc)⟩
          exact Pw.cons (hvu B w Z ρ ρ2 c hr h0) (ih ht)
        | [], hp => have := hp.1; simp at this
    have := key h ⟨h1, r1⟩
    exact .ag this.1 this.2
end Go.Proofs.YtdgohabgjgdfeaaDoor

/- What is handed back to a caller whose slices were looked at. Over any program. -/
namespace Go.Proofs.YtdgohabgjgdfeaaDoor
open Go Go.RowKit
set_option linter.unusedSimpArgs false
set_option linter.unusedVariables false
theorem Frx.frz {K : Heap} {v u : VV} (h : Frx K v u) : Frz K v u := fun B w Z ρ ρ2 y hr hv => (h B w Z ρ ρ2 y hr hv).zmono fun k hk => .inr hk
theorem Frx.ro0 {K : Heap} : Frx K (.ro 0 []) (.ro 0 []) := fun B w Z ρ ρ2 y _ hv => by
  cases hv with
  | ro => exact .ro0
  | ro0 => exact .ro0
theorem Frx.ag {K : Heap} {vs us : List VV} (h : FrxL K vs us) : Frx K (.ag vs) (.ag us) := fun B w Z ρ ρ2 y hr hv => by
  cases hv with
  | @ag _ cs h1 r1 =>
    obtain ⟨cs⟩ := cs
    simp only at h1 r1
    have key : ∀ {vs us : List VV} {cs : List Value}, FrxL K vs us → Pw (VRel w Z ρ) vs cs → Pw (VRel w (fun k => B.heap.size ≤ k ∧ k < w.heap.size) ρ2) us cs := by
      intro vs us cs h
      induction h generalizing cs with
      | nil => intro hp; exact ⟨hp.1, fun i u c hu => by simp at hu⟩
      | @cons v u r s hvu _ ih =>
        intro hp
        match cs, hp with
        | c :: ct, hp =>
          have h0 := hp.2 0 v c rfl rfl
          have ht : Pw (VRel w Z ρ) r ct := ⟨by have := hp.1; simpa using this, fun i u c hu hc => hp.2 (i + 1) u c (by simpa using hu) (by simpa using hc)⟩
          exact Pw.cons (hvu B w Z ρ ρ2 c hr h0) (ih ht)
        | [], hp => have := hp.1; simp at this
    have := key h ⟨h1, r1⟩
    exact .ag this.1 this.2
end Go.Proofs.YtdgohabgjgdfeaaDoor

/- Drawn regions with one event of any kind (a call, say) ahead of a tail. -/
namespace Go.Proofs.YtdgohabgjgdfeaaDoor
open Go Go.RowKit
set_option linter.unusedSimpArgs false
set_option linter.unusedVariables false
/-- One operation; a slice looked at as an array stops the walk. -/
def wone2 (P : Program) (o : Oper) (ts : List VV) (H : Heap) (K : VV → Heap → Prop) : Prop := match o.op with
  | .sliceToArrayPointer _ _ => GOp P o ts H K
  | _ => wone P o ts H K
theorem wone2_sound {P : Program} {o : Oper} {ts : List VV} {H : Heap} {K : VV → Heap → Prop} (h : wone2 P o ts H K) : VOne P o ts H K := by
  unfold wone2 at h
  split at h
  · exact h.out
  · exact wone_sound h
section
variable (P : Program) (al m : Nat) (H0 H1 : Heap)
def pureX2 (g : Bool) (o : Oper) (ts : List VV) (v : VV) : Prop := match g with
  | false => ∀ Hx, wone2 P o ts Hx fun x K' => Is x v K' Hx
  | true => match Nat.blt al m with
    | true => (wone2 P o ts H0 fun x K' => Is x v K' H0) ∧ (wone2 P o ts H1 fun x K' => Is x v K' H1)
    | false => wone2 P o ts H0 fun x K' => Is x v K' H0
theorem pureX2_sound {g : Bool} {o : Oper} {ts : List VV} {v : VV} (h : pureX2 P al m H0 H1 g o ts v) : PureF P al m H0 H1 g o ts v := by
  unfold pureX2 at h
  unfold PureF
  cases g with
  | false => exact fun Hx => (wone2_sound (h Hx)).mono fun x K' q => ⟨q.val, q.heap⟩
  | true =>
    simp only at h ⊢
    split at h
    · exact ⟨(wone2_sound h.1).mono fun x K' q => ⟨q.val, q.heap⟩, fun _ => (wone2_sound h.2).mono fun x K' q => ⟨q.val, q.heap⟩⟩
    · rename_i hb
      refine ⟨(wone2_sound h).mono fun x K' q => ⟨q.val, q.heap⟩, fun hlt => ?_⟩
      have : Nat.blt al m = true := blt_iff.2 hlt
      rw [this] at hb; cases hb
end
section
variable (P : Program) (ops : Array Oper) (ts0 : List VV) (al m : Nat) (an : List Nat) (va : VV) (H0 H1 : Heap) (K : List VV → Heap → Prop)
def wdrawE (i : Nat) (l : List Oper) (vs : List VV) : Prop :=
  List.rec (motive := fun _ => Nat → List VV → Prop) (fun i vs => wtail P ops ts0 K i [] vs H1) (fun o r ih i vs => match Nat.beq i m with
    | true => wtail P ops ts0 K i (o :: r) vs H1
    | false => match Nat.beq i al with
      | true => match o.guard with
        | none => envE i o ops.toList vs ts0 (readsOf ops o) fun L => And (wone2 P o (frameT L ts0.length 0) H0 fun x K' => Is x va K' H1) (snocE vs va fun vs' => ih (i + 1) vs')
        | some _ => False
      | false => match o.guard with
        | none => envE i o ops.toList vs ts0 (readsOf ops o) fun L => Val (fun v => pureX2 P al m H0 H1 (flagB ops.size m an i) o (frameT L ts0.length 0) v) (fun v => forceV v fun v' => snocE vs v' fun vs' => ih (i + 1) vs')
        | some (j, want) => match waitsFor o.after.toList j with
          | true => match vs[j]? with
            | some (.sc (.bool b)) => ifB b
              (setE vs j (.sc (.bool true)) fun vs1 => match want with
                | true => envE i o ops.toList vs1 ts0 (readsOf ops o) fun L => Val (fun v => pureX2 P al m H0 H1 (flagB ops.size m an i) o (frameT L ts0.length 0) v) (fun v => forceV v fun v' => snocE vs1 v' fun vs' => ih (i + 1) vs')
                | false => snocE vs1 (.tp []) fun vs' => ih (i + 1) vs')
              (setE vs j (.sc (.bool false)) fun vs1 => match want with
                | false => envE i o ops.toList vs1 ts0 (readsOf ops o) fun L => Val (fun v => pureX2 P al m H0 H1 (flagB ops.size m an i) o (frameT L ts0.length 0) v) (fun v => forceV v fun v' => snocE vs1 v' fun vs' => ih (i + 1) vs')
                | true => snocE vs1 (.tp []) fun vs' => ih (i + 1) vs')
            | some (.tp _) => snocE vs (.tp []) fun vs' => ih (i + 1) vs'
            | _ => False
          | false => False) l i vs
theorem wdrawE_cons (i : Nat) (o : Oper) (r : List Oper) (vs : List VV) : wdrawE P ops ts0 al m an va H0 H1 K i (o :: r) vs = (match Nat.beq i m with
    | true => wtail P ops ts0 K i (o :: r) vs H1
    | false => match Nat.beq i al with
      | true => match o.guard with
        | none => envE i o ops.toList vs ts0 (readsOf ops o) fun L => And (wone2 P o (frameT L ts0.length 0) H0 fun x K' => Is x va K' H1) (snocE vs va fun vs' => wdrawE P ops ts0 al m an va H0 H1 K (i + 1) r vs')
        | some _ => False
      | false => match o.guard with
        | none => envE i o ops.toList vs ts0 (readsOf ops o) fun L => Val (fun v => pureX2 P al m H0 H1 (flagB ops.size m an i) o (frameT L ts0.length 0) v) (fun v => forceV v fun v' => snocE vs v' fun vs' => wdrawE P ops ts0 al m an va H0 H1 K (i + 1) r vs')
        | some (j, want) => match waitsFor o.after.toList j with
          | true => match vs[j]? with
            | some (.sc (.bool b)) => ifB b
              (setE vs j (.sc (.bool true)) fun vs1 => match want with
                | true => envE i o ops.toList vs1 ts0 (readsOf ops o) fun L => Val (fun v => pureX2 P al m H0 H1 (flagB ops.size m an i) o (frameT L ts0.length 0) v) (fun v => forceV v fun v' => snocE vs1 v' fun vs' => wdrawE P ops ts0 al m an va H0 H1 K (i + 1) r vs')
                | false => snocE vs1 (.tp []) fun vs' => wdrawE P ops ts0 al m an va H0 H1 K (i + 1) r vs')
              (setE vs j (.sc (.bool false)) fun vs1 => match want with
                | false => envE i o ops.toList vs1 ts0 (readsOf ops o) fun L => Val (fun v => pureX2 P al m H0 H1 (flagB ops.size m an i) o (frameT L ts0.length 0) v) (fun v => forceV v fun v' => snocE vs1 v' fun vs' => wdrawE P ops ts0 al m an va H0 H1 K (i + 1) r vs')
                | true => snocE vs1 (.tp []) fun vs' => wdrawE P ops ts0 al m an va H0 H1 K (i + 1) r vs')
            | some (.tp _) => snocE vs (.tp []) fun vs' => wdrawE P ops ts0 al m an va H0 H1 K (i + 1) r vs'
            | _ => False
          | false => False) := rfl
def EFact (V : List VV) (G : Nat → Heap) (j : Nat) (o : Oper) : Prop := ∃ v, V[j]? = some v ∧ match decide (m ≤ j) with
  | true => VOne P o (tFor j o ops.toList 0 V ts0) (G j) (fun x K' => x = v ∧ K' = G (j + 1))
  | false => (j = al ∧ v = va ∧ o.guard = none ∧ VOne P o (tFor j o ops.toList 0 V ts0) H0 (fun x K' => x = va ∧ K' = H1)) ∨ (j ≠ al ∧ ((vwanted ops o (tFor j o ops.toList 0 V ts0) = some false ∧ v = .tp []) ∨ (vwanted ops o (tFor j o ops.toList 0 V ts0) = some true ∧ PureF P al m H0 H1 (flagB ops.size m an j) o (tFor j o ops.toList 0 V ts0) v)))
theorem wdrawE_sound (hback : ∀ (i : Nat) (o : Oper), ops.toList[i]? = some o → ∀ e ∈ o.after.toList, bindsA e = true → e.on < i) (hnd : (dstsOf ops.toList).Nodup) (hbd : ∀ (i : Nat) (o : Oper), ops.toList[i]? = some o → ∀ d, o.dst = some d → d < ts0.length) (hgd : ∀ (i : Nat) (o : Oper) (j : Nat) (w : Bool), ops.toList[i]? = some o → o.guard = some (j, w) → ((ops[j]?).bind (fun x : Oper => x.dst)).isSome = true) (hm : m ≤ ops.size) : ∀ (r : List Oper) (i : Nat) (vs : List VV), ops.toList.drop i = r → vs.length = i → i ≤ m → wdrawE P ops ts0 al m an va H0 H1 K i r vs →
    ∃ (V : List VV) (G : Nat → Heap), (∃ a, V = vs ++ a) ∧ V.length = ops.size ∧ G m = H1 ∧ K V (G ops.size) ∧ ∀ j o, i ≤ j → ops.toList[j]? = some o → EFact P ops ts0 al m an va H0 H1 V G j o := by
  have tail : ∀ (r : List Oper) (vs : List VV), ops.toList.drop m = r → vs.length = m → wtail P ops ts0 K m r vs H1 → ∃ (V : List VV) (G : Nat → Heap), (∃ a, V = vs ++ a) ∧ V.length = ops.size ∧ G m = H1 ∧ K V (G ops.size) ∧ ∀ j o, m ≤ j → ops.toList[j]? = some o → EFact P ops ts0 al m an va H0 H1 V G j o := by
    intro r vs hd hv h
    obtain ⟨V, G, ha, hl, hG, hk, hq⟩ := wtail_sound P ops ts0 K hback hnd r m vs H1 hd hv hm h
    refine ⟨V, G, ha, hl, hG, hk, fun j o hj ho => ?_⟩
    obtain ⟨v, g1, g2⟩ := hq j o hj ho
    refine ⟨v, g1, ?_⟩
    rw [decide_eq_true hj]
    exact g2
  intro r
  induction r with
  | nil =>
    intro i vs hd hv hi h
    have hle : ops.size ≤ i := by have := congrArg List.length hd; simp at this; omega
    have : i = m := by omega
    subst this
    exact tail [] vs hd hv h
  | cons o r ih =>
    intro i vs hd hv hi h
    have ho : ops.toList[i]? = some o := by
      have := congrArg (fun l => l[0]?) hd
      simpa using this
    have hd' : ops.toList.drop (i + 1) = r := by rw [← List.drop_drop, hd]; rfl
    rw [wdrawE_cons] at h
    rcases beq_cases i m with ⟨hb, e⟩ | ⟨hb, e⟩
    · rw [hb] at h
      subst e
      exact tail _ vs hd hv h
    rw [hb] at h
    simp only at h
    have hilt : i < m := by omega
    have hT : ∀ {V a : List VV}, V = vs ++ a → tFor i o ops.toList 0 vs ts0 = tFor i o ops.toList 0 V ts0 := fun e => tfor_more ops ts0 hback ho hv e
    have step : ∀ (v : VV), wdrawE P ops ts0 al m an va H0 H1 K (i + 1) r (vs ++ [v]) → (∀ V, tFor i o ops.toList 0 vs ts0 = tFor i o ops.toList 0 V ts0 → (i = al ∧ v = va ∧ o.guard = none ∧ VOne P o (tFor i o ops.toList 0 V ts0) H0 (fun x K' => x = va ∧ K' = H1)) ∨ (i ≠ al ∧ ((vwanted ops o (tFor i o ops.toList 0 V ts0) = some false ∧ v = .tp []) ∨ (vwanted ops o (tFor i o ops.toList 0 V ts0) = some true ∧ PureF P al m H0 H1 (flagB ops.size m an i) o (tFor i o ops.toList 0 V ts0) v)))) →
        ∃ (V : List VV) (G : Nat → Heap), (∃ a, V = vs ++ a) ∧ V.length = ops.size ∧ G m = H1 ∧ K V (G ops.size) ∧ ∀ j o, i ≤ j → ops.toList[j]? = some o → EFact P ops ts0 al m an va H0 H1 V G j o := by
      intro v hw hf
      obtain ⟨V, G, ⟨a, ha⟩, hl, hG, hk, hq⟩ := ih (i + 1) (vs ++ [v]) hd' (by simp [hv]) hilt hw
      refine ⟨V, G, ⟨v :: a, by rw [ha]; simp⟩, hl, hG, hk, fun j x hj hx => ?_⟩
      by_cases e : j = i
      · subst e
        rw [ho] at hx; injection hx with hx; subst hx
        refine ⟨v, by rw [ha, List.append_assoc, List.getElem?_append_right (by omega)]; simp [hv], ?_⟩
        rw [decide_eq_false (by omega)]
        exact hf V (hT (a := v :: a) (by rw [ha]; simp))
      · exact hq j x (by omega) hx
    rcases beq_cases i al with ⟨hb2, e2⟩ | ⟨hb2, e2⟩
    · rw [hb2] at h
      simp only at h
      split at h
      case h_2 => exact h.elim
      rename_i hgn
      rw [envE_eq] at h
      obtain ⟨h1, h2⟩ := h
      rw [snocE_eq] at h2
      refine step va h2 fun V e => .inl ⟨e2, rfl, hgn, ?_⟩
      rw [← e]
      exact VOne.less (env_less ops ts0 hnd i o vs _) ((wone2_sound h1).mono fun x K' q => ⟨q.val, q.heap⟩)
    rw [hb2] at h
    simp only at h
    have go : ∀ (hw : vwanted ops o (tFor i o ops.toList 0 vs ts0) = some true), (envE i o ops.toList vs ts0 (readsOf ops o) fun L => Val (fun v => pureX2 P al m H0 H1 (flagB ops.size m an i) o (frameT L ts0.length 0) v) (fun v => forceV v fun v' => snocE vs v' fun vs' => wdrawE P ops ts0 al m an va H0 H1 K (i + 1) r vs')) →
        ∃ (V : List VV) (G : Nat → Heap), (∃ a, V = vs ++ a) ∧ V.length = ops.size ∧ G m = H1 ∧ K V (G ops.size) ∧ ∀ j o, i ≤ j → ops.toList[j]? = some o → EFact P ops ts0 al m an va H0 H1 V G j o := by
      intro hw hg
      rw [envE_eq] at hg
      obtain ⟨v, h1, h2⟩ := hg.out
      rw [forceV_eq, snocE_eq] at h2
      refine step v h2 fun V e => .inr ⟨e2, .inr ⟨e ▸ hw, ?_⟩⟩
      rw [← e]
      exact PureF.less P al m H0 H1 (env_less ops ts0 hnd i o vs _) (pureX2_sound P al m H0 H1 h1)
    have skip : ∀ (hw : vwanted ops o (tFor i o ops.toList 0 vs ts0) = some false), (snocE vs (.tp []) fun vs' => wdrawE P ops ts0 al m an va H0 H1 K (i + 1) r vs') →
        ∃ (V : List VV) (G : Nat → Heap), (∃ a, V = vs ++ a) ∧ V.length = ops.size ∧ G m = H1 ∧ K V (G ops.size) ∧ ∀ j o, i ≤ j → ops.toList[j]? = some o → EFact P ops ts0 al m an va H0 H1 V G j o := by
      intro hw hg
      rw [snocE_eq] at hg
      exact step _ hg fun V e => .inr ⟨e2, .inl ⟨e ▸ hw, rfl⟩⟩
    split at h
    · rename_i hg
      exact go (by simp [vwanted, hg]) h
    · rename_i j want hg
      split at h
      case h_2 => exact h.elim
      rename_i hwt
      have hgd' := hgd i o j want ho hg
      have hval : ∀ u, vs[j]? = some u → ∃ d, (ops[j]?).bind (·.dst) = some d ∧ (tFor i o ops.toList 0 vs ts0)[d]? = some u := fun u hu => by
        cases hd2 : (ops[j]?).bind (·.dst) with
        | none => rw [hd2] at hgd'; cases hgd'
        | some d =>
          refine ⟨d, rfl, ?_⟩
          cases hx : ops[j]? with
          | none => rw [hx] at hd2; cases hd2
          | some x =>
            rw [hx] at hd2
            have hx' : ops.toList[j]? = some x := by simpa using hx
            have hxd : x.dst = some d := hd2
            have := (tFor_get i o ops.toList 0 vs ts0 hnd).2.2 j d x hx' hxd (hbd j x hx' d hxd)
            rw [this, Nat.zero_add, hwt, hu]
            rfl
      split at h
      · rename_i b hb3
        obtain ⟨d, e1, e2⟩ := hval _ hb3
        simp only [setE_eq] at h
        cases b with
        | true =>
          simp only [ifB] at h
          rw [set_same hb3] at h
          cases want with
          | true => exact go (by simp [vwanted, hg, e1, e2]) h
          | false => exact skip (by simp [vwanted, hg, e1, e2]) h
        | false =>
          simp only [ifB] at h
          rw [set_same hb3] at h
          cases want with
          | false => exact go (by simp [vwanted, hg, e1, e2]) h
          | true => exact skip (by simp [vwanted, hg, e1, e2]) h
      · rename_i hb3
        obtain ⟨d, e1, e2⟩ := hval _ hb3
        exact skip (by simp [vwanted, hg, e1, e2]) h
      · exact h.elim
end
theorem GWP.drawE {P : Program} {r : Option Nat} {id : Nat} {ops : Array Oper} {Q : Exit → VSt → Prop} {s : VSt} (hm : P.follows .mixedOrders = true) (al m n : Nat) (va : VV) (H1 : Heap) (hb : (backN 0 ops.toList && nodupN (dstsOf ops.toList) && fitN n ops && tailB ops.toList al m && Nat.blt al m) = true) (hlen : s.tmps.length = n)
    (h : match s with | ⟨ts0, H, md⟩ => forceNL (ancIn ops.toList m [m]) fun an => wdrawE P ops ts0 al m an va H H1 (fun V H' => tAllE ops.toList V ts0 fun ts => Q .normal ⟨ts, H', md⟩) 0 ops.toList []) : GWP P r (.region id ops true) Q s := ⟨by
  obtain ⟨ts0, H, md⟩ := s
  simp only [Bool.and_eq_true] at hb
  obtain ⟨⟨⟨⟨hb1, hb2⟩, hb3⟩, hb4⟩, hb5⟩ := hb
  have hback : ∀ i o, ops.toList[i]? = some o → ∀ e ∈ o.after.toList, bindsA e = true → e.on < i := fun i o ho e he hbe => by
    have := backN_iff hb1 i o ho e he hbe
    omega
  have hlen : ts0.length = n := hlen
  have hfit : ∀ (i : Nat) (o : Oper), ops.toList[i]? = some o → (∀ d, o.dst = some d → d < ts0.length) ∧ ∀ (j : Nat) (w : Bool), o.guard = some (j, w) → ((ops[j]?).bind (fun x : Oper => x.dst)).isSome = true := fun i o ho => by
    have := List.all_eq_true.1 hb3 o (List.mem_of_getElem? ho)
    simp only [Bool.and_eq_true] at this
    refine ⟨fun d hd => ?_, fun j w hg => ?_⟩
    · have h1 := this.1
      rw [hd] at h1
      rw [hlen]
      exact Nat.le_of_ble_eq_true h1
    · have h1 := this.2
      rw [hg] at h1
      exact h1
  have hta := tail_anc hb4
  have hmle : m ≤ ops.size := by
    have := hb4
    simp only [tailB, Bool.or_eq_true, Bool.and_eq_true] at this
    rcases this with this | this
    · have := Nat.eq_of_beq_eq_true this
      simp at this
      omega
    · have := Nat.le_of_ble_eq_true this.1.1.1
      simpa using this
  have hnog : ∀ i o, m ≤ i → ops.toList[i]? = some o → o.guard = none := fun i o hi ho => by
    have := hb4
    simp only [tailB, Bool.or_eq_true, Bool.and_eq_true] at this
    rcases this with this | this
    · have h1 := Nat.eq_of_beq_eq_true this
      have h2 := (List.getElem?_eq_some_iff.1 ho).1
      omega
    have h1 := List.all_eq_true.1 this.1.2 o (List.mem_of_getElem? (i := i - m) (by rw [List.getElem?_drop, show m + (i - m) = i by omega]; exact ho))
    simpa using h1
  have h : forceNL (ancIn ops.toList m [m]) (fun an => wdrawE P ops ts0 al m an va H H1 (fun V H' => tAllE ops.toList V ts0 fun ts => Q .normal ⟨ts, H', md⟩) 0 ops.toList []) := h
  rw [forceNL_eq] at h
  obtain ⟨V, G, _, hl, hG, hk, hq⟩ := wdrawE_sound P ops ts0 al m (ancIn ops.toList m [m]) va H H1 _ hback (nodup_of hb2) (fun i o ho => (hfit i o ho).1) (fun i o j w ho => (hfit i o ho).2 j w) hmle ops.toList 0 [] rfl rfl (Nat.zero_le _) h
  rw [tAllE_eq] at hk
  have hblt : Nat.blt al m = decide (al < m) := by
    by_cases h : al < m
    · rw [decide_eq_true h]; exact blt_iff.2 h
    · rw [decide_eq_false h]
      cases hb : Nat.blt al m
      · rfl
      · exact absurd (blt_iff.1 hb) h
  have halw : al < m ∨ (ops.size ≤ al ∧ H1 = H) := .inl (blt_iff.1 hb5)
  have halo : al < m → ∃ o, ops.toList[al]? = some o ∧ o.guard = none ∧ VOne P o (tFor al o ops.toList 0 V ts0) H (fun x K' => x = va ∧ K' = H1) ∧ V[al]? = some va := fun hlt => by
    have ho : ops.toList[al]? = some (ops.toList[al]'(by simp; omega)) := List.getElem?_eq_getElem _
    obtain ⟨v, h1, h2⟩ := hq al _ (Nat.zero_le _) ho
    rw [decide_eq_false (by omega)] at h2
    rcases h2 with ⟨_, rfl, g2, g3⟩ | ⟨ne, _⟩
    · exact ⟨_, ho, g2, g3, h1⟩
    · exact absurd rfl ne
  -- the heap behind so many events
  have hcnt := fun i hi => cnt_ev al m i hi ops.size
  have hcntA : cnt (fun j => (Nat.beq j al && Nat.blt al m) || Nat.ble m j) ops.size = (if al < m then 1 else 0) + (ops.size - m) := by
    have h1 := hcnt ops.size hmle
    have h2 : cnt (fun j => ((Nat.beq j al && Nat.blt al m) || Nat.ble m j) && Nat.blt j ops.size) ops.size = cnt (fun j => (Nat.beq j al && Nat.blt al m) || Nat.ble m j) ops.size := cnt_congr fun j hj => by
      have : Nat.blt j ops.size = true := blt_iff.2 hj
      rw [this, Bool.and_true]
    rw [← h2, h1]
    by_cases c : al < m
    · rw [if_pos ⟨c, by omega⟩, if_pos c]; omega
    · rw [if_neg (by omega), if_neg c]; omega
  refine VWP.draw (vals := V) (G := fun c => if al < m then (if c = 0 then H else G (m + (c - 1))) else G (m + c)) (ev := fun j => (Nat.beq j al && Nat.blt al m) || Nat.ble m j) hm
    ⟨by simpa using hl.symm, nodup_of hb2, hback, fun i j hi h1 h2 hji => ?_, fun i o ho hw => ?_, fun i o ho => ?_, fun i o v ho hw hev hv => ?_, fun i o v p ho hw hev hv hA hD => ?_⟩ ?_ ?_
  · -- order
    have him : m ≤ i := by
      rcases Bool.or_eq_true_iff.1 h1 with q | q
      · rcases Bool.or_eq_true_iff.1 h2 with q2 | q2
        · simp only [Bool.and_eq_true] at q q2
          have := Nat.eq_of_beq_eq_true q.1
          have := Nat.eq_of_beq_eq_true q2.1
          omega
        · simp only [Bool.and_eq_true] at q
          have := Nat.eq_of_beq_eq_true q.1
          have := Nat.le_of_ble_eq_true q2
          have := blt_iff.1 q.2
          omega
      · exact Nat.le_of_ble_eq_true q
    have := hta (i - m) j (by simp; omega) (by omega) fun hjm => by
      rcases Bool.or_eq_true_iff.1 h2 with q2 | q2
      · simp only [Bool.and_eq_true] at q2
        have e := Nat.eq_of_beq_eq_true q2.1
        have h5 := hb4
        simp only [tailB, Bool.or_eq_true, Bool.and_eq_true] at h5
        rcases h5 with h5 | h5
        · have := Nat.eq_of_beq_eq_true h5; simp at this; omega
        · rcases h5.2 with h6 | h6
          · rw [e]; exact memN_iff.1 h6
          · have := Nat.eq_of_beq_eq_true h6; simp at this; omega
      · have := Nat.le_of_ble_eq_true q2; omega
    rwa [show m + (i - m) = i by omega] at this
  · -- skip
    obtain ⟨v, h1, h2⟩ := hq i o (Nat.zero_le _) ho
    have hil : i < ops.size := by have := (List.getElem?_eq_some_iff.1 ho).1; simpa using this
    by_cases hmi : m ≤ i
    · have := hnog i o hmi ho
      simp [vwanted, this] at hw
    · rw [decide_eq_false hmi] at h2
      rcases h2 with ⟨e, _⟩ | ⟨ne, ⟨_, rfl⟩ | ⟨h2, _⟩⟩
      · subst e
        obtain ⟨o2, g1, g2, _⟩ := halo (by omega)
        rw [ho] at g1; injection g1 with g1; subst g1
        simp [vwanted, g2] at hw
      · refine ⟨h1, ?_⟩
        rw [Bool.or_eq_false_iff]
        constructor
        · rw [Bool.and_eq_false_iff]
          by_cases e : i = al
          · subst e
            right
            cases hbb : Nat.blt i m
            · rfl
            · obtain ⟨o2, g1, g2, _⟩ := halo (blt_iff.1 hbb)
              rw [ho] at g1; injection g1 with g1; subst g1
              simp [vwanted, g2] at hw
          · left
            rcases beq_cases i al with ⟨_, e2⟩ | ⟨h3, _⟩
            · exact absurd e2 e
            · exact h3
        · cases hbb : Nat.ble m i
          · rfl
          · exact absurd (Nat.le_of_ble_eq_true hbb) hmi
      · rw [hw] at h2; simp at h2
  · -- wanted is known
    obtain ⟨v, h1, h2⟩ := hq i o (Nat.zero_le _) ho
    by_cases hmi : m ≤ i
    · simp [vwanted, hnog i o hmi ho]
    · rw [decide_eq_false hmi] at h2
      rcases h2 with ⟨e, _⟩ | ⟨ne, ⟨h2, _⟩ | ⟨h2, _⟩⟩
      · subst e
        obtain ⟨o2, g1, g2, _⟩ := halo (by omega)
        rw [ho] at g1; injection g1 with g1; subst g1
        simp [vwanted, g2]
      · rw [h2]; simp
      · rw [h2]; simp
  · -- events
    obtain ⟨u, h1, h2⟩ := hq i o (Nat.zero_le _) ho
    rw [hv] at h1; injection h1 with h1; subst h1
    have hil : i < ops.size := by have := (List.getElem?_eq_some_iff.1 ho).1; simpa using this
    by_cases hmi : m ≤ i
    · rw [decide_eq_true hmi] at h2
      simp only at h2
      have hc := hcnt i hmi
      have hmin : min ops.size i = i := by omega
      rw [hmin] at hc
      rw [hc]
      by_cases c : al < m
      · simp only [if_pos c, if_pos (And.intro c (show al < ops.size by omega))]
        rw [if_neg (by omega), if_neg (by omega), show m + (1 + (i - m) - 1) = i by omega, show m + (1 + (i - m) + 1 - 1) = i + 1 by omega]
        exact h2
      · simp only [if_neg c, if_neg (show ¬ (al < m ∧ al < ops.size) by omega)]
        rw [show m + (0 + (i - m)) = i by omega, show m + (0 + (i - m) + 1) = i + 1 by omega]
        exact h2
    · have hia : i = al ∧ al < m := by
        rcases Bool.or_eq_true_iff.1 hev with q | q
        · simp only [Bool.and_eq_true] at q
          exact ⟨Nat.eq_of_beq_eq_true q.1, blt_iff.1 q.2⟩
        · exact absurd (Nat.le_of_ble_eq_true q) hmi
      obtain ⟨rfl, hlt⟩ := hia
      obtain ⟨o2, g1, g2, g3⟩ := halo hlt
      rw [ho] at g1; injection g1 with g1; subst g1
      rw [decide_eq_false hmi] at h2
      have hc0 : cnt (fun j => ((Nat.beq j i && Nat.blt i m) || Nat.ble m j) && Nat.blt j i) ops.size = 0 := by
        rw [cnt_congr (g := fun _ => false) fun j hj => ?_]
        · exact cnt_false _
        · cases hbb : Nat.blt j i
          · simp
          · have hji := blt_iff.1 hbb
            have e1 : Nat.beq j i = false := by
              rcases beq_cases j i with ⟨_, e⟩ | ⟨h3, _⟩
              · omega
              · exact h3
            have e2 : Nat.ble m j = false := by
              cases hq2 : Nat.ble m j
              · rfl
              · have := Nat.le_of_ble_eq_true hq2; omega
            simp [e1, e2]
      rw [hc0]
      simp only [if_pos hlt, if_true]
      rw [if_neg (by omega), show m + (0 + 1 - 1) = m by omega, hG]
      have hvv : v = va := by
        rcases h2 with ⟨_, e, _⟩ | ⟨ne, _⟩
        · exact e
        · exact absurd rfl ne
      subst hvv
      exact g3.1
  · -- the others
    obtain ⟨u, h1, h2⟩ := hq i o (Nat.zero_le _) ho
    rw [hv] at h1; injection h1 with h1; subst h1
    rcases Bool.or_eq_false_iff.1 hev with ⟨k1, k2⟩
    have hmi : ¬ m ≤ i := fun hh => by rw [Nat.ble_eq_true_of_le hh] at k2; cases k2
    rw [decide_eq_false hmi] at h2
    rcases h2 with ⟨e, _⟩ | ⟨ne, ⟨h2, _⟩ | ⟨_, q⟩⟩
    · subst e
      have hlt : i < m := by omega
      rw [hblt, decide_eq_true hlt, Bool.and_true] at k1
      simp [Nat.beq_refl] at k1
    · rw [hw] at h2; simp at h2
    · unfold PureF at q
      cases hfl : flagB ops.size m (ancIn ops.toList m [m]) i with
      | false => rw [hfl] at q; exact q _
      | true =>
        rw [hfl] at q
        obtain ⟨q1, q2⟩ := q
        have hd := hD (fun j => Nat.ble m j && Nat.blt j ops.size) fun j hj => by
          simp only [Bool.and_eq_true] at hj
          have hmj := Nat.le_of_ble_eq_true hj.1
          have hjs := blt_iff.1 hj.2
          refine ⟨by simp [hj.1], ?_⟩
          have := hta (j - m) i (by simp; omega) (by omega) fun _ => by
            unfold flagB at hfl
            split at hfl
            · rename_i hbq
              have := Nat.eq_of_beq_eq_true hbq
              omega
            · exact memN_iff.1 hfl
          rwa [show m + (j - m) = j by omega] at this
        have hcd : cnt (fun j => Nat.ble m j && Nat.blt j ops.size) ops.size = ops.size - m := by
          have h3 := cnt_ev ops.size m ops.size hmle ops.size
          rw [if_neg (by omega)] at h3
          rw [show ops.size - m = 0 + (min ops.size ops.size - m) by omega, ← h3]
          refine cnt_congr fun j hj => ?_
          have : Nat.blt ops.size m = false := by
            cases hbb : Nat.blt ops.size m
            · rfl
            · have := blt_iff.1 hbb; omega
          simp [this]
        rw [hcd, hcntA] at hd
        by_cases c : al < m
        · simp only [if_pos c] at hd ⊢
          by_cases hp : p = 0
          · simp only [if_pos hp]; exact q1
          · have : p = 1 := by omega
            subst this
            simp only [if_neg (show ¬ (1 : Nat) = 0 by omega), Nat.sub_self, Nat.add_zero, hG]
            exact q2 c
        · simp only [if_neg c] at hd ⊢
          have : p = 0 := by omega
          subst this
          rcases halw with q | ⟨_, e⟩
          · exact absurd q c
          · rw [Nat.add_zero, hG, e]; exact q1
  · -- the first heap
    by_cases c : al < m
    · simp only [if_pos c, if_true]
    · simp only [if_neg c, Nat.add_zero, hG]
      rcases halw with q | ⟨_, e⟩
      · exact absurd q c
      · exact e
  · -- the last
    rw [hcntA]
    by_cases c : al < m
    · simp only [if_pos c]
      by_cases hz : 1 + (ops.size - m) = 0
      · omega
      · rw [if_neg hz, show m + (1 + (ops.size - m) - 1) = ops.size by omega]; exact hk
    · simp only [if_neg c]
      rw [show m + (0 + (ops.size - m)) = ops.size by omega]; exact hk⟩
/-- A slice that nobody writes, looked at as an array. -/
theorem GOp'.toArr {P : Program} {o : Oper} {ts : List VV} {H : Heap} {K : VV → Heap → Prop} {t e : TypeId} {x : Operand} {m n : Nat} {vs : List VV} (ho : o.op = .sliceToArrayPointer t x) (hu : P.underlying t = some (.array m e)) (hx : veval ts x = .ro n vs) (hm : m ≤ n) (h0 : 0 < m) (k : K (.rp vs 0) H) : GOp' P o ts H K := ⟨⟨by
  refine VOne.exec' k (fun c e => by simp [ho] at e) fun av w Z ρ hr => ?_
  have hv := hr x
  rw [hx] at hv
  have hxe : av x = av x := rfl
  generalize hav : av x = y at hv
  cases hv with
  | @ro _ k o _ _ cs hZ hn hlen hcell hrel =>
    refine ⟨.pointer (some ⟨k, o, none⟩), ?_, .rp (o' := 0) hZ hlen hcell hrel⟩
    simp only [execOp, ho, hav]
    simp [Instr.arrayAt, run_und hu, show ¬ n < m by omega]
  | ro0 => omega⟩⟩
end Go.Proofs.YtdgohabgjgdfeaaDoor

/- The want of a text, walked. -/
namespace Go.Proofs.YtdgohabgjgdfeaaDoor
open Go Go.RowKit
set_option linter.unusedSimpArgs false
set_option linter.unusedVariables false
set_option maxRecDepth 100000
set_option maxHeartbeats 4000000
theorem hasPrefix_call (t m : List UInt8) (H : Heap) {b : Nat} {vs : List VV} {n : Nat} {c0 : Option Nat} (hg : H.get b = some (.cells true vs)) (hv : vs = m.map bV) (hn : n = m.length) (ht : t.length ≤ 100000) : VCall Tryd.prog 123 [roB t, .sl b 0 n c0 1] H (fun x K => x = booV (m.isPrefixOf t) ∧ K = H) := by
  subst hv hn
  refine VCall.viewed (args' := [roB t, roB m]) (Q := fun v K => v = booV (m.isPrefixOf t)) (.cons (View.of (nameless_roB t)) (.cons ?_ .nil)) ?_ (fun v K e => by subst e; exact Frx.of (exact_sc _))
  · have := View.sl (H := H) (b := b) (o := 0) (n := m.length) (z := 1) (c := c0) hg (by simp) (nameless_map nameless_bV m)
    rw [List.drop_zero, Nat.mul_one, List.take_of_length_le (by simp)] at this
    unfold roB
    exact this
  · have hpre : m.length ≤ t.length → (t.take m.length == m) = m.isPrefixOf t := fun h => by
      rw [Bool.eq_iff_iff, List.isPrefixOf_iff_prefix, beq_iff_eq, List.prefix_iff_eq_take]
      exact eq_comm
    refine VCall.go Tryd.func123 rfl ?_
    repeat' (first | (with_reducible refine And.intro ?_ ?_) | ((with_reducible intro hc); (try simp only [leZ_eq, ltZ_eq, eqZ_eq, str_size, str_list, str_nil, List.toList_toArray, decide_eq_true_eq, decide_eq_false_iff_not, beq_iff_eq, bne_iff_ne, beq_eq_false_iff_ne, bne_eq_false_iff_eq, ne_eq, Bool.not_eq_true', Bool.not_eq_false', Bool.not_true, Bool.not_false, gt_iff_lt, ge_iff_le, Int.not_lt, Int.not_le, Decidable.not_not] at hc); (first | (exact absurd rfl hc) | (exact absurd trivial hc) | (exfalso; omega) | skip)) | ((conv => whnf); first | (with_reducible refine And.intro ?_ ?_) | (refine ifB_intro (fun hc => ?_) (fun hc => ?_) <;> (try simp only [leZ_eq, ltZ_eq, eqZ_eq, str_size, str_list, str_nil, List.toList_toArray, decide_eq_true_eq, decide_eq_false_iff_not, beq_iff_eq, bne_iff_ne, beq_eq_false_iff_ne, bne_eq_false_iff_eq, ne_eq, Bool.not_eq_true', Bool.not_eq_false', Bool.not_true, Bool.not_false, gt_iff_lt, ge_iff_le, Int.not_lt, Int.not_le, Decidable.not_not] at hc) <;> (first | (exact absurd rfl hc) | (exact absurd trivial hc) | (exfalso; omega) | skip)) | (refine GAr.i64 (by omega) ?_) | ((refine GAr.i64w ?_); intro kw hk1 hk2) | (refine GAr.u8s (by omega) ?_) | (refine GAr.u8 ?_) | (refine GAr.u64s (by omega) ?_) | (refine GAr.u32s (by omega) ?_) | (refine GAr.u64 ?_) | (refine GAr.u32 ?_) | (refine GQuo.i64 (by omega) ?_) | (refine GRem.pos (by omega) ?_) | (with_reducible refine stopA ?_) | (refine Exists.intro _ (And.intro (by rfl) ?_)) | (refine GOp.via (by rfl) ?_) | (with_reducible refine stopO ?_) | (with_reducible refine stopE ?_) | (with_reducible refine stopD ?_) | (with_reducible refine stopW ?_) | (with_reducible refine stopG ?_) | (with_reducible refine stopC ?_) | (with_reducible refine stopR ?_)))
    all_goals (first | omega | skip)
    · have e : VV.ro (((m.length : Int)).toNat - 0) (((t.map bV).drop (0 * 1)).take ((((m.length : Int)).toNat - 0) * 1)) = roB (t.take m.length) := by
        have := roB_slice (l := t) (z := 1) (i := 0) (j := m.length) rfl (by omega) (by omega)
        rw [Int.toNat_natCast, this, Nat.sub_zero, List.drop_zero]
      refine GCall'.mk (VCall.arg21 e ((equal_call (t.take m.length) m _).mono ?_))
      rintro _ _ ⟨rfl, rfl⟩
      rw [hpre (by omega)]
      repeat' (first | (with_reducible refine And.intro ?_ ?_) | ((with_reducible intro hc); (try simp only [leZ_eq, ltZ_eq, eqZ_eq, str_size, str_list, str_nil, List.toList_toArray, decide_eq_true_eq, decide_eq_false_iff_not, beq_iff_eq, bne_iff_ne, beq_eq_false_iff_ne, bne_eq_false_iff_eq, ne_eq, Bool.not_eq_true', Bool.not_eq_false', Bool.not_true, Bool.not_false, gt_iff_lt, ge_iff_le, Int.not_lt, Int.not_le, Decidable.not_not] at hc); (first | (exact absurd rfl hc) | (exact absurd trivial hc) | (exfalso; omega) | skip)) | ((conv => whnf); first | (with_reducible refine And.intro ?_ ?_) | (refine ifB_intro (fun hc => ?_) (fun hc => ?_) <;> (try simp only [leZ_eq, ltZ_eq, eqZ_eq, str_size, str_list, str_nil, List.toList_toArray, decide_eq_true_eq, decide_eq_false_iff_not, beq_iff_eq, bne_iff_ne, beq_eq_false_iff_ne, bne_eq_false_iff_eq, ne_eq, Bool.not_eq_true', Bool.not_eq_false', Bool.not_true, Bool.not_false, gt_iff_lt, ge_iff_le, Int.not_lt, Int.not_le, Decidable.not_not] at hc) <;> (first | (exact absurd rfl hc) | (exact absurd trivial hc) | (exfalso; omega) | skip)) | (refine GAr.i64 (by omega) ?_) | ((refine GAr.i64w ?_); intro kw hk1 hk2) | (refine GAr.u8s (by omega) ?_) | (refine GAr.u8 ?_) | (refine GAr.u64s (by omega) ?_) | (refine GAr.u32s (by omega) ?_) | (refine GAr.u64 ?_) | (refine GAr.u32 ?_) | (refine GQuo.i64 (by omega) ?_) | (refine GRem.pos (by omega) ?_) | (with_reducible refine stopA ?_) | (refine Exists.intro _ (And.intro (by rfl) ?_)) | (refine GOp.via (by rfl) ?_) | (with_reducible refine stopO ?_) | (with_reducible refine stopE ?_) | (with_reducible refine stopD ?_) | (with_reducible refine stopW ?_) | (with_reducible refine stopG ?_) | (with_reducible refine stopC ?_) | (with_reducible refine stopR ?_)))
      exact Done'.mk rfl
    · have : m.isPrefixOf t = false := by
        cases hh : m.isPrefixOf t
        · rfl
        · have := (List.isPrefixOf_iff_prefix.1 hh).length_le
          omega
      rw [this]
      exact Done'.mk rfl
def preB : List UInt8 := [115, 104, 97, 50, 53, 54, 45]
/-- What a piece wants. -/
def want1 (x : List UInt8) : Option (List UInt8) := if preB.isPrefixOf x then (match readP (x.drop 7) with
  | some b => if b.length = 32 then some b else none
  | none => none) else none
def wants (l : List UInt8) : List (List UInt8) := (fieldsB l).filterMap want1
def rowsB (ws : List (List UInt8)) : List VV := ws.flatMap fun w => w.map bV
def wantV (ws : List (List UInt8)) : VV := .ag [.ro ws.length (rowsB ws)]
theorem rowsB_nameless (ws : List (List UInt8)) : ∀ v ∈ rowsB ws, Nameless v := fun v hv => by
  obtain ⟨w, _, hv⟩ := List.mem_flatMap.1 hv
  exact nameless_map nameless_bV w v hv
theorem nameless_wantV (ws : List (List UInt8)) : Nameless (wantV ws) := nameless_ag (by
  simp only [List.mem_singleton, forall_eq]
  exact nameless_ro (rowsB_nameless ws))
theorem rowsB_len {ws : List (List UInt8)} (h : ∀ w ∈ ws, w.length = 32) : (rowsB ws).length = ws.length * 32 := by
  unfold rowsB
  induction ws with
  | nil => rfl
  | cons w r ih =>
    have h1 := h w (by simp)
    rw [List.flatMap_cons, List.length_append, ih (fun x hx => h x (by simp [hx])), List.length_map, h1, List.length_cons]
    omega
theorem rowsB_snoc (ws : List (List UInt8)) (w : List UInt8) : rowsB (ws ++ [w]) = rowsB ws ++ w.map bV := by
  unfold rowsB; simp
theorem sty_32 : SlTy Tryd.prog 34 32 32 := ⟨⟨_, _, _, rfl, rfl, rfl, rfl, rfl, rfl⟩⟩
theorem hasPre_call {H : Heap} {b : Nat} (x : List UInt8) (hx : x.length ≤ 100000) (hg : H.get b = some (.cells true (preB.map bV))) : VCall Tryd.prog 123 [roB x, .sl b 0 7 (some 7) 1] H (fun v K => v = booV (preB.isPrefixOf x) ∧ K = H) :=
  hasPrefix_call x preB H hg rfl rfl hx
end Go.Proofs.YtdgohabgjgdfeaaDoor

/- A slice of one array, built in a drawn region. -/
namespace Go.Proofs.YtdgohabgjgdfeaaDoor
open Go Go.RowKit
set_option linter.unusedSimpArgs false
set_option linter.unusedVariables false
theorem GWP.drawF {P : Program} {r : Option Nat} {id : Nat} {ops : Array Oper} {Q : Exit → VSt → Prop} {s : VSt} (hm : P.follows .mixedOrders = true) (al m n : Nat) (va : VV) (f : Heap → Heap) (hb : (backN 0 ops.toList && nodupN (dstsOf ops.toList) && fitN n ops && tailB ops.toList al m && Nat.blt al m) = true) (hlen : s.tmps.length = n)
    (h : match s with | ⟨ts0, H, md⟩ => forceNL (ancIn ops.toList m [m]) fun an => wdrawE P ops ts0 al m an va H (f H) (fun V H' => tAllE ops.toList V ts0 fun ts => Q .normal ⟨ts, H', md⟩) 0 ops.toList []) : GWP P r (.region id ops true) Q s := by
  obtain ⟨ts0, H, md⟩ := s
  exact GWP.drawE hm al m n va (f H) hb hlen h
theorem scB_rows {vs : List VV} (h : ∀ v ∈ vs, scB v = true) : ∀ v ∈ vs, Nameless v := fun v hv => scB_nameless (h v hv)
theorem GOp.drawnA {o : Oper} {ts : List VV} {H : Heap} {i : Nat} {b : List UInt8} (ho : o.op = .buildSlice 34 1 #[(0, .tmp i)]) (hx : ts[i]? = some (.ag (b.map bV))) (ha : (ts.set i .junk).all scB = true) (h32 : b.length = 32) :
    GOp Tryd.prog o ts H (fun x K' => Is x (.ro 1 (b.map bV)) K' H) := ⟨by
  have hv : vop Tryd.prog o ts ⟨[], 0⟩ = some (.sl 0 0 1 (some 1) 32, ⟨[(0, .cells true (b.map bV))], 1⟩) := by
    have hz : vsize Tryd.prog 32 = some 32 := by kernel_rfl
    have hl : vzero Tryd.prog 32 = some (List.replicate 32 (.sc (.int .u8 0))) := by kernel_rfl
    have he : veval ts (.tmp i) = .ag (b.map bV) := by simp only [veval, hx, Option.getD_some]
    have h1 : cellsOf (.ag (b.map bV)) = some (b.map bV) := by
      unfold cellsOf
      simp only [one_map]
    have h3 : vzeros (List.replicate 32 (.sc (.int .u8 0))) (1 * 32) = List.replicate 32 (.sc (.int .u8 0)) := by kernel_rfl
    have hs : setRun (List.replicate 32 (.sc (.int .u8 0))) (0 * 32) (b.map bV) = b.map bV := by
      rw [Nat.zero_mul]
      exact setRun_full (by simp [h32])
    simp only [vop, ho, vbuildSlice, Tryd.underlying34, hz, hl, List.map_cons, List.map_nil, he, vfill, h1, h3, hs, List.length_map, h32, List.length_replicate]
    rfl
  have hn : ∀ v ∈ ts, Nameless v := fun v hv => by
    obtain ⟨j, hj, e⟩ := List.mem_iff_getElem.1 hv
    by_cases hji : j = i
    · subst hji
      rw [List.getElem?_eq_getElem hj, e] at hx
      injection hx with hx
      subst hx
      exact nameless_ag (nameless_map nameless_bV b)
    · refine scB_nameless (List.all_eq_true.1 ha v ?_)
      refine List.mem_iff_getElem.2 ⟨j, by simpa using hj, ?_⟩
      rw [List.getElem_set_ne (fun h => hji h.symm)]
      exact e
  refine (VOne.frozen (u := .ro 1 (b.map bV)) hn hv ?_).mono fun x K' e => ⟨e.1, e.2⟩
  have := Frz.sl (K := ⟨[(0, .cells true (b.map bV))], 1⟩) (b := 0) (o := 0) (n := 1) (z := 32) (c := some 1) rfl (by simp [h32]) (nameless_map nameless_bV b)
  rw [List.drop_zero, List.take_of_length_le (by simp [h32])] at this
  exact this⟩
end Go.Proofs.YtdgohabgjgdfeaaDoor

/- The law DigestWrites, walked. -/
namespace Go.Proofs.YtdgohabgjgdfeaaDoor
open Go Go.RowKit
set_option linter.unusedSimpArgs false
set_option linter.unusedVariables false
set_option maxRecDepth 100000
set_option maxHeartbeats 4000000
theorem b64_len : ∀ l : List UInt8, (b64 l).length ≤ 2 * l.length + 4
  | a :: b :: c :: r => by
    have e : b64 (a :: b :: c :: r) = sgn (a.toNat / 4) :: sgn (a.toNat % 4 * 16 + b.toNat / 16) :: sgn (b.toNat % 16 * 4 + c.toNat / 64) :: sgn (c.toNat % 64) :: b64 r := by cases r <;> rfl
    have := b64_len r
    rw [e]
    simp only [List.length_cons]
    omega
  | [a, b] => by simp [b64]
  | [a] => by simp [b64]
  | [] => by simp [b64]
theorem rreadY_call {t : List UInt8} (h : b64 (r64 t) = t) (hl : t.length ≤ 1000) (H : Heap) : VCall Tryd.prog 18 [strV t] H (fun x K => x = .tp [roB (r64 t), booV true] ∧ K = H) := by
  have : r64R t = .tp [roB (r64 t), booV true] := by unfold r64R; rw [if_pos h]
  rw [← this]; exact rread_call t H hl
theorem rreadN_call {t : List UInt8} (h : ¬ b64 (r64 t) = t) (hl : t.length ≤ 1000) (H : Heap) : VCall Tryd.prog 18 [strV t] H (fun x K => x = .tp [.ro 0 [], booV false] ∧ K = H) := by
  have : r64R t = .tp [.ro 0 [], booV false] := by unfold r64R; rw [if_neg h]
  rw [← this]; exact rread_call t H hl
theorem readS_call {t x : List UInt8} (h : readP t = some x) (hl : t.length ≤ 1000) (H : Heap) : VCall Tryd.prog 17 [roB t] H (fun v K => v = .tp [roB x, iV 0] ∧ K = H) := by
  rw [← readV_some h]; exact read_call t H hl
theorem readN_call {t : List UInt8} (h : readP t = none) (hl : t.length ≤ 1000) (H : Heap) : VCall Tryd.prog 17 [roB t] H (fun v K => v = .tp [.ro 0 [], iV 2] ∧ K = H) := by
  rw [← readV_none h]; exact read_call t H hl
end Go.Proofs.YtdgohabgjgdfeaaDoor

/- Whether bytes meet a want, walked. -/
namespace Go.Proofs.YtdgohabgjgdfeaaDoor
open Go Go.RowKit
set_option linter.unusedSimpArgs false
set_option linter.unusedVariables false
set_option maxRecDepth 100000
set_option maxHeartbeats 4000000
theorem rowsB_append (a b : List (List UInt8)) : rowsB (a ++ b) = rowsB a ++ rowsB b := by
  unfold rowsB; simp
theorem vat_rowsB {ws : List (List UInt8)} {i q : Nat} {w : List UInt8} (hws : ∀ w ∈ ws, w.length = 32) (h : ws[i]? = some w) (hq : q = i * 32) : vat Tryd.prog 32 (rowsB ws) q = some (.ag (w.map bV)) := by
  subst hq
  obtain ⟨hi, e⟩ := List.getElem?_eq_some_iff.1 h
  have e1 : ws = ws.take i ++ (w :: ws.drop (i + 1)) := by
    rw [← e, ← List.drop_eq_getElem_cons hi, List.take_append_drop]
  have e2 : (rowsB (ws.take i)).length = i * 32 := by
    rw [rowsB_len (fun x hx => hws x (List.mem_of_mem_take hx)), List.length_take, Nat.min_eq_left (by omega)]
  have e3 : rowsB ws = rowsB (ws.take i) ++ (w.map bV ++ rowsB (ws.drop (i + 1))) := by
    conv => lhs; rw [e1]
    rw [rowsB_append]
    rfl
  have hw : (w.map bV).length = 32 := by
    rw [List.length_map]
    exact hws w (List.mem_of_getElem? h)
  have h0 : vagg Tryd.prog 32 = some true := by kernel_rfl
  have hz : vsize Tryd.prog 32 = some 32 := by kernel_rfl
  have hl := rowsB_len hws
  have h2 : Nat.ble (i * 32 + 32) (rowsB ws).length = true := Nat.ble_eq_true_of_le (by omega)
  simp only [vat, h0, hz, h2]
  rw [e3, ← e2, List.drop_left, ← hw, List.take_left]
def meetsB (ws : List (List UInt8)) (d : List UInt8) : Bool := ws.any (fun w => w == d) || ws.isEmpty
theorem meets_call (ws : List (List UInt8)) (x : List UInt8) (H : Heap) (hws : ∀ w ∈ ws, w.length = 32) (hn : ws.length ≤ 1000) (hx : x.length ≤ 1000) : VCall Tryd.prog 22 [wantV ws, roB x] H (fun v K => v = booV (meetsB ws (sha x)) ∧ K = H) := by
  refine VCall.pure (by simp [nameless_roB, nameless_wantV]) (nameless_sc _) ?_
  have hsum := fun H => sum_call x (by omega) H
  have hbl : (sha x).length = 32 := sha_len x
  generalize sha x = d at *
  have hb1 := one_map d
  have h32 : (d.map bV).length = 32 := by rw [List.length_map, hbl]
  refine VCall.go Tryd.func22 rfl ?_
  repeat' (first | (with_reducible refine And.intro ?_ ?_) | ((with_reducible intro hc); (try simp only [leZ_eq, ltZ_eq, eqZ_eq, str_size, str_list, str_nil, List.toList_toArray, decide_eq_true_eq, decide_eq_false_iff_not, beq_iff_eq, bne_iff_ne, beq_eq_false_iff_ne, bne_eq_false_iff_eq, ne_eq, Bool.not_eq_true', Bool.not_eq_false', Bool.not_true, Bool.not_false, gt_iff_lt, ge_iff_le, Int.not_lt, Int.not_le, Decidable.not_not] at hc); (first | (exact absurd rfl hc) | (exact absurd trivial hc) | (exfalso; omega) | skip)) | ((conv => whnf); first | (with_reducible refine And.intro ?_ ?_) | (refine ifB_intro (fun hc => ?_) (fun hc => ?_) <;> (try simp only [leZ_eq, ltZ_eq, eqZ_eq, str_size, str_list, str_nil, List.toList_toArray, decide_eq_true_eq, decide_eq_false_iff_not, beq_iff_eq, bne_iff_ne, beq_eq_false_iff_ne, bne_eq_false_iff_eq, ne_eq, Bool.not_eq_true', Bool.not_eq_false', Bool.not_true, Bool.not_false, gt_iff_lt, ge_iff_le, Int.not_lt, Int.not_le, Decidable.not_not] at hc) <;> (first | (exact absurd rfl hc) | (exact absurd trivial hc) | (exfalso; omega) | skip)) | (refine GAr.i64 (by omega) ?_) | ((refine GAr.i64w ?_); intro kw hk1 hk2) | (refine GAr.u8s (by omega) ?_) | (refine GAr.u8 ?_) | (refine GAr.u64s (by omega) ?_) | (refine GAr.u32s (by omega) ?_) | (refine GAr.u64 ?_) | (refine GAr.u32 ?_) | (refine GQuo.i64 (by omega) ?_) | (refine GRem.pos (by omega) ?_) | (with_reducible refine stopA ?_) | (refine Exists.intro _ (And.intro (by rfl) ?_)) | (refine GOp.stA (vs := d.map bV) (by rfl) (by rfl) (by rfl) (by rfl) (by rfl) h32 hb1 ?_) | (refine GOp.via (by rfl) ?_) | (with_reducible refine stopO ?_) | (with_reducible refine stopE ?_) | (with_reducible refine stopD ?_) | (with_reducible refine stopW ?_) | (with_reducible refine stopG ?_) | (refine GCall.mk ((hsum _).mono ?_); rintro _ _ ⟨rfl, rfl⟩) | (with_reducible refine stopC ?_) | (with_reducible refine stopR ?_)))
  (refine GWP'.mk (GWP.loopB [] (fun (i : Nat) => i ≤ ws.length ∧ ∀ w ∈ ws.take i, w ≠ d) (fun i => [(13, iV i)]) (fun i => []) 2 (fun i => ws.length - i) 0 ⟨Nat.zero_le _, by simp⟩ ?_); (conv => whnf); refine And.intro ?_ ?_)
  · (refine KeptA.of [] rfl rfl (by repeat' (first | exact trivial | refine And.intro rfl ?_)) rfl ?fit ?ren; (case ren => (repeat' (first | exact trivial | (refine And.intro ?_ ?_) | (refine Exists.intro _ (And.intro rfl ?_)) | (refine RenO.opt ?_) | (refine RenO.toOpt ?_) | (refine RenO.cells ?_) | exact RenO.defs | exact RenL.nil | (refine RenL.cons ?_ ?_) | (first | fail | (with_reducible exact RenV.sc) | exact RenV.gsN | exact RenV.gsZ | (refine RenV.gsE (by (first | exact List.Mem.head _ | exact List.Mem.tail _ (List.Mem.head _) | exact List.Mem.tail _ (List.Mem.tail _ (List.Mem.head _)) | (simp; done))) ?_; (first | rfl | omega | (simp only [List.length_append, List.length_cons, List.length_nil, List.length_map, List.length_take, List.length_drop] <;> omega) | (simp only <;> omega) | (simp <;> omega))) | exact RenV.gsL (by decide) | exact RenV.slL (by decide) | (refine RenV.eq (scI_eq ?_) (nameless_sc _); (first | rfl | omega | (simp only [List.length_append, List.length_cons, List.length_nil, List.length_map, List.length_take, List.length_drop] <;> omega) | (simp only <;> omega) | (simp <;> omega))) | exact RenV.undef) | (with_unfolding_all exact (rfl : (_ : VObj) = _))))); (case fit => (repeat' (first | exact trivial | (refine And.intro ?_ ?_) | (refine Exists.intro _ (And.intro rfl ?_)) | (first | fail | (with_reducible exact RenV.sc) | exact RenV.gsN | exact RenV.gsZ | (refine RenV.gsE (by (first | exact List.Mem.head _ | exact List.Mem.tail _ (List.Mem.head _) | exact List.Mem.tail _ (List.Mem.tail _ (List.Mem.head _)) | (simp; done))) ?_; (first | rfl | omega | (simp only [List.length_append, List.length_cons, List.length_nil, List.length_map, List.length_take, List.length_drop] <;> omega) | (simp only <;> omega) | (simp <;> omega))) | exact RenV.gsL (by decide) | exact RenV.slL (by decide) | (refine RenV.eq (scI_eq ?_) (nameless_sc _); (first | rfl | omega | (simp only [List.length_append, List.length_cons, List.length_nil, List.length_map, List.length_take, List.length_drop] <;> omega) | (simp only <;> omega) | (simp <;> omega))) | exact RenV.undef)))))
  rintro i ⟨hi, hno⟩
  simp only at hi hno ⊢
  by_cases hil : i < ws.length
  · obtain ⟨w, hw⟩ : ∃ w, ws[i]? = some w := ⟨ws[i], List.getElem?_eq_getElem hil⟩
    have hwm : w ∈ ws := List.mem_of_getElem? hw
    have hwl := hws w hwm
    have hwb := one_map w
    have hw32 : (w.map bV).length = 32 := by rw [List.length_map, hwl]
    have htk : ws.take (i + 1) = ws.take i ++ [w] := by
      obtain ⟨hi2, e⟩ := List.getElem?_eq_some_iff.1 hw
      rw [List.take_succ_eq_append_getElem hi2, e]
    repeat' (first | (with_reducible refine And.intro ?_ ?_) | ((with_reducible intro hc); (try simp only [leZ_eq, ltZ_eq, eqZ_eq, str_size, str_list, str_nil, List.toList_toArray, decide_eq_true_eq, decide_eq_false_iff_not, beq_iff_eq, bne_iff_ne, beq_eq_false_iff_ne, bne_eq_false_iff_eq, ne_eq, Bool.not_eq_true', Bool.not_eq_false', Bool.not_true, Bool.not_false, gt_iff_lt, ge_iff_le, Int.not_lt, Int.not_le, Decidable.not_not] at hc); (first | (exact absurd rfl hc) | (exact absurd trivial hc) | (exfalso; omega) | skip)) | ((conv => whnf); first | (with_reducible refine And.intro ?_ ?_) | (refine ifB_intro (fun hc => ?_) (fun hc => ?_) <;> (try simp only [leZ_eq, ltZ_eq, eqZ_eq, str_size, str_list, str_nil, List.toList_toArray, decide_eq_true_eq, decide_eq_false_iff_not, beq_iff_eq, bne_iff_ne, beq_eq_false_iff_ne, bne_eq_false_iff_eq, ne_eq, Bool.not_eq_true', Bool.not_eq_false', Bool.not_true, Bool.not_false, gt_iff_lt, ge_iff_le, Int.not_lt, Int.not_le, Decidable.not_not] at hc) <;> (first | (exact absurd rfl hc) | (exact absurd trivial hc) | (exfalso; omega) | skip)) | (refine GAr.i64 (by omega) ?_) | ((refine GAr.i64w ?_); intro kw hk1 hk2) | (refine GAr.u8s (by omega) ?_) | (refine GAr.u8 ?_) | (refine GAr.u64s (by omega) ?_) | (refine GAr.u32s (by omega) ?_) | (refine GAr.u64 ?_) | (refine GAr.u32 ?_) | (refine GQuo.i64 (by omega) ?_) | (refine GRem.pos (by omega) ?_) | (with_reducible refine stopA ?_) | (refine Exists.intro _ (And.intro (by (first | exact vat_rowsB hws hw rfl | exact vat_arr h32 rfl | exact vat_arr hw32 rfl | rfl)) ?_)) | (refine GOp.stA (vs := w.map bV) (by rfl) (by rfl) (by rfl) (by rfl) (by rfl) hw32 hwb ?_) | (refine GOp.via (by rfl) ?_) | (with_reducible refine stopO ?_) | (with_reducible refine stopE ?_) | (with_reducible refine stopD ?_) | (with_reducible refine stopW ?_) | (with_reducible refine stopG ?_) | (refine stopO (GOp'.eq32 (a := w) (b := d) rfl (.inl rfl) rfl rfl hwl hbl ?_)) | (with_reducible refine stopC ?_) | (with_reducible refine stopR ?_)))
    all_goals (first | omega | skip)
    refine GOp'.eq32 (a := w) (b := d) rfl (.inl rfl) rfl rfl hwl hbl ?_
    repeat' (first | (with_reducible refine And.intro ?_ ?_) | ((with_reducible intro hc); (try simp only [leZ_eq, ltZ_eq, eqZ_eq, str_size, str_list, str_nil, List.toList_toArray, decide_eq_true_eq, decide_eq_false_iff_not, beq_iff_eq, bne_iff_ne, beq_eq_false_iff_ne, bne_eq_false_iff_eq, ne_eq, Bool.not_eq_true', Bool.not_eq_false', Bool.not_true, Bool.not_false, gt_iff_lt, ge_iff_le, Int.not_lt, Int.not_le, Decidable.not_not] at hc); (first | (exact absurd rfl hc) | (exact absurd trivial hc) | (exfalso; omega) | skip)) | (exact Is.mk rfl rfl) | ((conv => whnf); first | (with_reducible refine And.intro ?_ ?_) | (with_reducible intro hx) | (exact Is.mk rfl rfl) | (with_reducible apply Val.via) | (with_reducible apply ValH.via) | (refine ifB_intro (fun hc => ?_) (fun hc => ?_) <;> (try simp only [leZ_eq, ltZ_eq, eqZ_eq, str_size, str_list, str_nil, List.toList_toArray, decide_eq_true_eq, decide_eq_false_iff_not, beq_iff_eq, bne_iff_ne, beq_eq_false_iff_ne, bne_eq_false_iff_eq, ne_eq, Bool.not_eq_true', Bool.not_eq_false', Bool.not_true, Bool.not_false, gt_iff_lt, ge_iff_le, Int.not_lt, Int.not_le, Decidable.not_not] at hc) <;> (first | (exact absurd rfl hc) | (exact absurd trivial hc) | (exfalso; omega) | skip)) | (refine GAr.i64 (by omega) ?_) | ((refine GAr.i64w ?_); intro kw hk1 hk2) | (refine GAr.u8s (by omega) ?_) | (refine GAr.u8 ?_) | (refine GAr.u64s (by omega) ?_) | (refine GAr.u32s (by omega) ?_) | (refine GAr.u64 ?_) | (refine GAr.u32 ?_) | (refine GQuo.i64 (by omega) ?_) | (refine GRem.pos (by omega) ?_) | (with_reducible refine stopA ?_) | (refine Exists.intro _ (And.intro (by (first | exact vat_of rfl rfl rfl | rfl)) ?_)) | (refine GOp.drawn (by rfl) (by rfl) (Nat.le_of_ble_eq_true (by rfl)) (by rfl)) | (refine GOp.via (by rfl) ?_) | (refine GWP.drawY mixed _ (by kernel_rfl) (by rfl) ?_) | fail | (with_reducible refine stopO ?_) | (with_reducible refine stopE ?_) | (with_reducible refine stopD ?_) | (with_reducible refine stopW ?_) | (with_reducible refine stopG ?_) | (with_reducible refine stopC ?_) | (with_reducible refine stopR ?_)))
    all_goals (first | omega | skip)
    · have hm : meetsB ws d = true := by
        unfold meetsB
        rw [Bool.or_eq_true]
        exact .inl (List.any_eq_true.2 ⟨w, hwm, by simpa using hc⟩)
      exact Done'.mk (by rw [hm]; rfl)
    · (refine Done'.mk ⟨(i + 1), ⟨by omega, by intro y hy; rw [htk] at hy; rcases List.mem_append.1 hy with h | h; exact hno y h; rw [List.mem_singleton.1 h]; simpa using hc⟩, ?mu, KeptA.of [] rfl rfl (by repeat' (first | exact trivial | refine And.intro rfl ?_)) rfl ?fit ?ren⟩; (case mu => (first | omega | (simp only; omega))); (case ren => (repeat' (first | exact trivial | (refine And.intro ?_ ?_) | (refine Exists.intro _ (And.intro rfl ?_)) | (refine RenO.opt ?_) | (refine RenO.toOpt ?_) | (refine RenO.cells ?_) | exact RenO.defs | exact RenL.nil | (refine RenL.cons ?_ ?_) | (first | fail | (with_reducible exact RenV.sc) | exact RenV.gsN | exact RenV.gsZ | (refine RenV.gsE (by (first | exact List.Mem.head _ | exact List.Mem.tail _ (List.Mem.head _) | exact List.Mem.tail _ (List.Mem.tail _ (List.Mem.head _)) | (simp; done))) ?_; (first | rfl | omega | (simp only [List.length_append, List.length_cons, List.length_nil, List.length_map, List.length_take, List.length_drop] <;> omega) | (simp only <;> omega) | (simp <;> omega))) | exact RenV.gsL (by decide) | exact RenV.slL (by decide) | (refine RenV.eq (scI_eq ?_) (nameless_sc _); (first | rfl | omega | (simp only [List.length_append, List.length_cons, List.length_nil, List.length_map, List.length_take, List.length_drop] <;> omega) | (simp only <;> omega) | (simp <;> omega))) | exact RenV.undef) | (with_unfolding_all exact (rfl : (_ : VObj) = _))))); (case fit => (repeat' (first | exact trivial | (refine And.intro ?_ ?_) | (refine Exists.intro _ (And.intro rfl ?_)) | (first | fail | (with_reducible exact RenV.sc) | exact RenV.gsN | exact RenV.gsZ | (refine RenV.gsE (by (first | exact List.Mem.head _ | exact List.Mem.tail _ (List.Mem.head _) | exact List.Mem.tail _ (List.Mem.tail _ (List.Mem.head _)) | (simp; done))) ?_; (first | rfl | omega | (simp only [List.length_append, List.length_cons, List.length_nil, List.length_map, List.length_take, List.length_drop] <;> omega) | (simp only <;> omega) | (simp <;> omega))) | exact RenV.gsL (by decide) | exact RenV.slL (by decide) | (refine RenV.eq (scI_eq ?_) (nameless_sc _); (first | rfl | omega | (simp only [List.length_append, List.length_cons, List.length_nil, List.length_map, List.length_take, List.length_drop] <;> omega) | (simp only <;> omega) | (simp <;> omega))) | exact RenV.undef)))))
  · obtain rfl : i = ws.length := by omega
    rw [List.take_length] at hno
    cases ws with
    | nil =>
      repeat' (first | (with_reducible refine And.intro ?_ ?_) | ((with_reducible intro hc); (try simp only [leZ_eq, ltZ_eq, eqZ_eq, str_size, str_list, str_nil, List.toList_toArray, decide_eq_true_eq, decide_eq_false_iff_not, beq_iff_eq, bne_iff_ne, beq_eq_false_iff_ne, bne_eq_false_iff_eq, ne_eq, Bool.not_eq_true', Bool.not_eq_false', Bool.not_true, Bool.not_false, gt_iff_lt, ge_iff_le, Int.not_lt, Int.not_le, Decidable.not_not] at hc); (first | (exact absurd rfl hc) | (exact absurd trivial hc) | (exfalso; omega) | skip)) | (exact Is.mk rfl rfl) | ((conv => whnf); first | (with_reducible refine And.intro ?_ ?_) | (with_reducible intro hx) | (exact Is.mk rfl rfl) | (with_reducible apply Val.via) | (with_reducible apply ValH.via) | (refine ifB_intro (fun hc => ?_) (fun hc => ?_) <;> (try simp only [leZ_eq, ltZ_eq, eqZ_eq, str_size, str_list, str_nil, List.toList_toArray, decide_eq_true_eq, decide_eq_false_iff_not, beq_iff_eq, bne_iff_ne, beq_eq_false_iff_ne, bne_eq_false_iff_eq, ne_eq, Bool.not_eq_true', Bool.not_eq_false', Bool.not_true, Bool.not_false, gt_iff_lt, ge_iff_le, Int.not_lt, Int.not_le, Decidable.not_not] at hc) <;> (first | (exact absurd rfl hc) | (exact absurd trivial hc) | (exfalso; omega) | skip)) | (refine GAr.i64 (by omega) ?_) | ((refine GAr.i64w ?_); intro kw hk1 hk2) | (refine GAr.u8s (by omega) ?_) | (refine GAr.u8 ?_) | (refine GAr.u64s (by omega) ?_) | (refine GAr.u32s (by omega) ?_) | (refine GAr.u64 ?_) | (refine GAr.u32 ?_) | (refine GQuo.i64 (by omega) ?_) | (refine GRem.pos (by omega) ?_) | (with_reducible refine stopA ?_) | (refine Exists.intro _ (And.intro (by rfl) ?_)) | (refine GOp.drawn (by rfl) (by rfl) (Nat.le_of_ble_eq_true (by rfl)) (by rfl)) | (refine GOp.via (by rfl) ?_) | (refine GWP.drawY mixed _ (by kernel_rfl) (by rfl) ?_) | fail | (with_reducible refine stopO ?_) | (with_reducible refine stopE ?_) | (with_reducible refine stopD ?_) | (with_reducible refine stopW ?_) | (with_reducible refine stopG ?_) | (with_reducible refine stopC ?_) | (with_reducible refine stopR ?_)))
      all_goals (first | omega | exact Done'.mk rfl | skip)
    | cons a r =>
      have hl : (a :: r).length = r.length + 1 := rfl
      have hm : meetsB (a :: r) d = false := by
        unfold meetsB
        rw [Bool.or_eq_false_iff]
        exact ⟨List.any_eq_false.2 fun w hw => by simpa using hno w hw, rfl⟩
      repeat' (first | (with_reducible refine And.intro ?_ ?_) | ((with_reducible intro hc); (try simp only [leZ_eq, ltZ_eq, eqZ_eq, str_size, str_list, str_nil, List.toList_toArray, decide_eq_true_eq, decide_eq_false_iff_not, beq_iff_eq, bne_iff_ne, beq_eq_false_iff_ne, bne_eq_false_iff_eq, ne_eq, Bool.not_eq_true', Bool.not_eq_false', Bool.not_true, Bool.not_false, gt_iff_lt, ge_iff_le, Int.not_lt, Int.not_le, Decidable.not_not] at hc); (first | (exact absurd rfl hc) | (exact absurd trivial hc) | (exfalso; omega) | skip)) | (exact Is.mk rfl rfl) | ((conv => whnf); first | (with_reducible refine And.intro ?_ ?_) | (with_reducible intro hx) | (exact Is.mk rfl rfl) | (with_reducible apply Val.via) | (with_reducible apply ValH.via) | (refine ifB_intro (fun hc => ?_) (fun hc => ?_) <;> (try simp only [leZ_eq, ltZ_eq, eqZ_eq, str_size, str_list, str_nil, List.toList_toArray, decide_eq_true_eq, decide_eq_false_iff_not, beq_iff_eq, bne_iff_ne, beq_eq_false_iff_ne, bne_eq_false_iff_eq, ne_eq, Bool.not_eq_true', Bool.not_eq_false', Bool.not_true, Bool.not_false, gt_iff_lt, ge_iff_le, Int.not_lt, Int.not_le, Decidable.not_not] at hc) <;> (first | (exact absurd rfl hc) | (exact absurd trivial hc) | (exfalso; omega) | skip)) | (refine GAr.i64 (by omega) ?_) | ((refine GAr.i64w ?_); intro kw hk1 hk2) | (refine GAr.u8s (by omega) ?_) | (refine GAr.u8 ?_) | (refine GAr.u64s (by omega) ?_) | (refine GAr.u32s (by omega) ?_) | (refine GAr.u64 ?_) | (refine GAr.u32 ?_) | (refine GQuo.i64 (by omega) ?_) | (refine GRem.pos (by omega) ?_) | (with_reducible refine stopA ?_) | (refine Exists.intro _ (And.intro (by rfl) ?_)) | (refine GOp.drawn (by rfl) (by rfl) (Nat.le_of_ble_eq_true (by rfl)) (by rfl)) | (refine GOp.via (by rfl) ?_) | (refine GWP.drawY mixed _ (by kernel_rfl) (by rfl) ?_) | fail | (with_reducible refine stopO ?_) | (with_reducible refine stopE ?_) | (with_reducible refine stopD ?_) | (with_reducible refine stopW ?_) | (with_reducible refine stopG ?_) | (with_reducible refine stopC ?_) | (with_reducible refine stopR ?_)))
      all_goals (first | omega | skip)
      exact Done'.mk (by rw [hm]; rfl)
end Go.Proofs.YtdgohabgjgdfeaaDoor

/- What own texts want. -/
namespace Go.Proofs.YtdgohabgjgdfeaaDoor
open Go Go.RowKit
set_option linter.unusedSimpArgs false
set_option linter.unusedVariables false
theorem sgn_blank (n : Nat) : blankB (sgn n) = false := by
  unfold sgn
  cases h : sgnT[n]? with
  | none => rfl
  | some c =>
    have hall : sgnT.all (fun c => !blankB c) = true := by decide
    have := List.all_eq_true.1 hall c (List.mem_of_getElem? h)
    simpa using this
theorem b64_blank : ∀ (l : List UInt8), ∀ c ∈ b64 l, blankB c = false
  | a :: b :: c :: r => fun x hx => by
    have e : b64 (a :: b :: c :: r) = sgn (a.toNat / 4) :: sgn (a.toNat % 4 * 16 + b.toNat / 16) :: sgn (b.toNat % 16 * 4 + c.toNat / 64) :: sgn (c.toNat % 64) :: b64 r := by cases r <;> rfl
    rw [e] at hx
    simp only [List.mem_cons] at hx
    rcases hx with rfl | rfl | rfl | rfl | hx
    · exact sgn_blank _
    · exact sgn_blank _
    · exact sgn_blank _
    · exact sgn_blank _
    · exact b64_blank r x hx
  | [a, b] => fun x hx => by
    simp only [b64, List.mem_cons, List.not_mem_nil, or_false] at hx
    rcases hx with rfl | rfl | rfl | rfl
    · exact sgn_blank _
    · exact sgn_blank _
    · exact sgn_blank _
    · rfl
  | [a] => fun x hx => by
    simp only [b64, List.mem_cons, List.not_mem_nil, or_false] at hx
    rcases hx with rfl | rfl | rfl | rfl
    · exact sgn_blank _
    · exact sgn_blank _
    · rfl
    · rfl
  | [] => fun x hx => by simp [b64] at hx
theorem fieldsGo_run {r : List UInt8} : ∀ (w cur : List UInt8), (∀ c ∈ w, blankB c = false) → fieldsGo (w ++ r) cur = fieldsGo r (cur ++ w)
  | [], cur, _ => by simp
  | c :: w, cur, h => by
    have hc := h c (by simp)
    rw [List.cons_append, fieldsGo, if_neg (by rw [hc]; simp), fieldsGo_run w (cur ++ [c]) (fun x hx => h x (by simp [hx]))]
    simp
/-- A sum's own text. -/
def ownT (s : List UInt8) : List UInt8 := preB ++ b64 s
def twoT (s t : List UInt8) : List UInt8 := ([120, 32, 115, 104, 97, 50, 53, 54, 45] ++ b64 t) ++ ([9] ++ ownT s)
theorem ownT_blank (s : List UInt8) : ∀ c ∈ ownT s, blankB c = false := fun c hc => by
  unfold ownT at hc
  rcases List.mem_append.1 hc with h | h
  · have hall : preB.all (fun c => !blankB c) = true := by decide
    have := List.all_eq_true.1 hall c h
    simpa using this
  · exact b64_blank s c h
theorem ownT_pos (s : List UInt8) : ¬ (ownT s).length = 0 := by
  unfold ownT preB
  simp
theorem want1_own {s : List UInt8} (h : s.length = 32) : want1 (ownT s) = some s := by
  have h1 : preB.isPrefixOf (ownT s) = true := List.isPrefixOf_iff_prefix.2 ⟨b64 s, rfl⟩
  have h2 : (ownT s).drop 7 = b64 s := rfl
  unfold want1
  rw [h1, h2, readP_b64]
  simp [h]
theorem wants_own {s : List UInt8} (h : s.length = 32) : wants (ownT s) = [s] := by
  have : fieldsB (ownT s) = [ownT s] := by
    have e := fieldsGo_run (r := []) (ownT s) [] (ownT_blank s)
    rw [List.append_nil, List.nil_append] at e
    unfold fieldsB
    rw [e, fieldsGo, if_neg (ownT_pos s)]
  unfold wants
  rw [this, List.filterMap_cons, want1_own h]
  rfl
theorem wants_two {s t : List UInt8} (h : s.length = 32) (h2 : t.length = 32) : wants (twoT s t) = [t, s] := by
  have e0 : twoT s t = 120 :: 32 :: (ownT t ++ (9 :: ownT s)) := by
    unfold twoT
    show _ = 120 :: 32 :: ((preB ++ b64 t) ++ _)
    simp [preB]
  have : fieldsB (twoT s t) = [[120], ownT t, ownT s] := by
    unfold fieldsB
    rw [e0, fieldsGo, if_neg (by decide), fieldsGo, if_pos (by decide), if_neg (by decide), fieldsGo_run _ _ (ownT_blank t), fieldsGo, if_pos (by decide), List.nil_append, List.nil_append, if_neg (ownT_pos t)]
    have e := fieldsGo_run (r := []) (ownT s) [] (ownT_blank s)
    rw [List.append_nil, List.nil_append] at e
    rw [e, fieldsGo, if_neg (ownT_pos s)]
  unfold wants
  rw [this, List.filterMap_cons, show want1 [120] = none from by decide, List.filterMap_cons, want1_own h2, List.filterMap_cons, want1_own h]
  rfl
theorem wants_nil : wants [] = [] := rfl
theorem ownT_len (s : List UInt8) : (ownT s).length ≤ 2 * s.length + 11 := by
  have := b64_len s
  unfold ownT preB
  simp
  omega
theorem twoT_len (s t : List UInt8) : (twoT s t).length ≤ 2 * s.length + 2 * t.length + 25 := by
  have := b64_len t
  have h2 := ownT_len s
  unfold twoT
  simp only [List.length_append, List.length_cons, List.length_nil]
  omega
end Go.Proofs.YtdgohabgjgdfeaaDoor

