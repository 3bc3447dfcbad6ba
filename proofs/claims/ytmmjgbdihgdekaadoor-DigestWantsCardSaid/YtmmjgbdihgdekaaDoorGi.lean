import Derived.Test.YtmmjgbdihgdekaaDoorGg
import Derived.Test.YtmmjgbdihgdekaaDoorGh
import Derived.Test.YtmmjgbdihgdekaaDoorGa
import Derived.Test.YtmmjgbdihgdekaaDoorG9
/- Parse, told of all its users' arguments. -/
namespace Go.Proofs.YtmmjgbdihgdekaaDoor
open Go Go.RowKit
set_option linter.unusedSimpArgs false
set_option linter.unusedVariables false
set_option maxRecDepth 100000
set_option maxHeartbeats 4000000
theorem parse_call (l : List UInt8) (H : Heap) (hl : l.length ≤ 900) : VCall Tryd.prog 12 [roB l] H (fun v K => v = wantV (wants l) ∧ K = H) :=
  VCall.frozen (Q := fun v K => Frx K v (wantV (wants l))) (by simp [nameless_roB]) (parse0_call l hl) (fun v K h => h.frz)
theorem len_call (ws : List (List UInt8)) (H : Heap) : VCall Tryd.prog 16 [wantV ws] H (fun v K => v = iV ws.length ∧ K = H) := by
  refine VCall.pure (by simp [nameless_wantV]) (nameless_sc _) ?_
  refine VCall.go Tryd.func16 rfl ?_
  repeat' (first | with_reducible refine And.intro ?_ ?_ | ((with_reducible intro hc); (try simp only [zA, zB, zC, zD, zE, zF, zG, zH, zI, zJ, zK, zL, zM, zN, zO, zP, zQ, zR, zS, zT, zU, zV, zW] at hc); (first | (exact absurd rfl hc) | (exact absurd trivial hc) | (exfalso; omega) | skip)) | exact Is.mk rfl rfl | ((conv => whnf); first | with_reducible refine And.intro ?_ ?_ | with_reducible intro hx | exact Is.mk rfl rfl | (with_reducible first | apply Val.via | apply ValH.via) | refine ifB_intro ?_ ?_ | refine xA (by omega) ?_ | ((refine xB ?_); intro kw hk1 hk2) | refine xC (by omega) ?_ | refine xD ?_ | refine xE (by omega) ?_ | refine xF (by omega) ?_ | refine xG ?_ | refine xH ?_ | refine xI (by omega) ?_ | refine xJ (by omega) ?_ | (with_reducible refine stopA ?_) | refine Exists.intro _ (And.intro (by (first | exact vat_of rfl rfl rfl | rfl)) ?_) | refine GOp.drawn (by rfl) (by rfl) (Nat.le_of_ble_eq_true (by rfl)) (by rfl) | refine GOp.via (by rfl) ?_ | refine GWP.drawY mixed _ (by kernel_rfl) (by rfl) ?_ | fail | (with_reducible first | refine stopO ?_ | refine stopE ?_ | refine stopD ?_ | refine stopW ?_ | refine stopG ?_ | refine stopC ?_ | refine stopR ?_)))
  all_goals exact Done'.mk rfl
theorem GOp'.growX {P : Program} {o : Oper} {ts : List VV} {H : Heap} {K : VV → Heap → Prop} {s x : Operand} {sT xT : TypeId} {z bytes b n m : Nat} {d : TypeDesc} {l vs : List VV} (nm : Nat) (rs : List VV) (ho : o.op = .call ⟨.builtin .append, #[s, x], #[sT, xT]⟩) (h : SlTy P sT z bytes) (hx : P.underlying xT = some d) (hd : ∀ k, d ≠ .int k) (hs : veval ts s = .gs b n z) (hl : velems z (veval ts x) H = some (m, l)) (h1 : l.all VV.one = true)
    (hg : H.get b = some (.opt vs)) (hv : vs.length = n * z) (hb : (n + m) * bytes ≤ 140737488355328) (hm2 : n + m ≤ 4611686018427387904) (hrs : vs ++ l = rs) (hnm : n + m = nm) (k : K (.gs H.next nm z) ((H.del b).add (.opt rs))) : GOp' P o ts H K := by
  subst hrs hnm
  exact GOp'.grow ho h hx hd hs hl h1 hg hv hb hm2 k
end Go.Proofs.YtmmjgbdihgdekaaDoor

/- The document's Parse, walked. -/
namespace Go.Proofs.YtmmjgbdihgdekaaDoor
open Go Go.RowKit
set_option linter.unusedSimpArgs false
set_option linter.unusedVariables false
set_option maxRecDepth 100000
set_option maxHeartbeats 4000000
theorem fieldsGo_le : ∀ (r cur x : List UInt8), x ∈ fieldsGo r cur → x.length ≤ cur.length + r.length
  | [], cur, x, h => by
    unfold fieldsGo at h
    split at h
    · simp at h
    · rw [List.mem_singleton.1 h]; simp
  | b :: r, cur, x, h => by
    have ih := fieldsGo_le r
    unfold fieldsGo at h
    split at h
    · split at h
      · have := ih [] x h
        simp at this ⊢; omega
      · rcases List.mem_cons.1 h with rfl | h
        · omega
        · have := ih [] x h
          simp at this ⊢; omega
    · have := ih (cur ++ [b]) x h
      simp at this ⊢; omega
theorem fieldsGo_many : ∀ (r cur : List UInt8), (fieldsGo r cur).length ≤ r.length + 1
  | [], cur => by unfold fieldsGo; split <;> simp
  | b :: r, cur => by
    have ih := fieldsGo_many r
    unfold fieldsGo
    split
    · split
      · have := ih []; simp; omega
      · have := ih []; simp; omega
    · have := ih (cur ++ [b]); simp; omega
def fillB (b : List UInt8) (j : Nat) : List UInt8 := b.take j ++ List.replicate (32 - j) 0
theorem fillB_len {b : List UInt8} {j : Nat} (h : b.length = 32) (hj : j ≤ 32) : (fillB b j).length = 32 := by
  unfold fillB; simp; omega
theorem fillB_set {b : List UInt8} {j : Nat} {c : UInt8} (h : b.length = 32) (hj : j < 32) (hc : b[j]? = some c) : (fillB b j).set j c = fillB b (j + 1) := by
  unfold fillB
  have hl : (b.take j).length = j := by simp; omega
  rw [take_next hc, show 32 - j = (32 - (j + 1)) + 1 by omega, List.replicate_succ, List.set_append_right _ _ (by omega), hl, Nat.sub_self, List.set_cons_zero, List.append_assoc]
  rfl
theorem fillB_all {b : List UInt8} (h : b.length = 32) : fillB b 32 = b := by
  unfold fillB
  rw [List.take_of_length_le (by omega)]; simp
theorem GOp'.stB {o : Oper} {ts : List VV} {H : Heap} {K : VV → Heap → Prop} {b q j : Nat} {us rs : List UInt8} {a x : Operand} {c : UInt8} (ho : o.op = .store 5 a x) (ha : veval ts a = .ptr b q) (hqj : q = j) (hx : veval ts x = bV c) (hg : H.get b = some (.cells true (us.map bV))) (hq : j < us.length) (hrs : us.set j c = rs) (k : K (.tp []) (H.set b (.cells true (rs.map bV)))) : GOp' Tryd.prog o ts H K := by
  subst hqj
  refine GOp'.via (vop_store ho (H' := H.set b (.cells true (rs.map bV))) ?_) k
  have hz : vsize Tryd.prog 5 = some 1 := by kernel_rfl
  have h1 : cellsOf (bV c) = some [bV c] := rfl
  have h2 : Nat.ble (q + 1) (us.map bV).length = true := Nat.ble_eq_true_of_le (by simp; omega)
  have h3 : setRun (us.map bV) q [bV c] = rs.map bV := by
    rw [← hrs, List.map_set]; rfl
  rw [ha, hx]
  simp only [vstore, hg, h1, hz, h2, h3, List.length_cons, List.length_nil, Nat.zero_add, show Nat.beq 1 1 = true from rfl, Bool.and_self]
theorem GOp'.mkA {o : Oper} {ts : List VV} {H : Heap} {K : VV → Heap → Prop} {x : Operand} {b : List UInt8} (ho : o.op = .buildSlice 24 1 #[(0, x)]) (he : veval ts x = .ag (b.map bV)) (h32 : b.length = 32) (k : K (.sl H.next 0 1 (some 1) 32) (H.add (.cells true (b.map bV)))) : GOp' Tryd.prog o ts H K := by
  refine GOp'.via (v := .sl H.next 0 1 (some 1) 32) (H' := H.add (.cells true (b.map bV))) ?_ k
  have hz : vsize Tryd.prog 34 = some 32 := by kernel_rfl
  have hl : vzero Tryd.prog 34 = some (List.replicate 32 (.sc (.int .u8 0))) := by kernel_rfl
  have h1 : cellsOf (.ag (b.map bV)) = some (b.map bV) := by
    unfold cellsOf
    simp only [one_map]
  have h3 : vzeros (List.replicate 32 (.sc (.int .u8 0))) (1 * 32) = List.replicate 32 (.sc (.int .u8 0)) := by kernel_rfl
  have hs : setRun (List.replicate 32 (.sc (.int .u8 0))) (0 * 32) (b.map bV) = b.map bV := by
    rw [Nat.zero_mul]
    exact setRun_full (by simp [h32])
  simp only [vop, ho, vbuildSlice, Tryd.underlying24, hz, hl, List.map_cons, List.map_nil, he, vfill, h1, h3, hs, List.length_map, h32, List.length_replicate]
  rfl
theorem extS (l : List UInt8) (a b : Nat) : (⟨l.toArray⟩ : ByteArray).extract a b = ⟨((l.drop a).take (b - a)).toArray⟩ := by
  apply ByteArray.ext
  simp [ByteArray.data_extract, List.extract_toArray, List.extract_eq_take_drop]
theorem want1_short {x : List UInt8} (h : x.length < 7) : want1 x = none := by
  have : preB.isPrefixOf x = false := by
    cases hh : preB.isPrefixOf x
    · rfl
    · have h2 := (List.isPrefixOf_iff_prefix.1 hh).length_le
      simp [preB] at h2; omega
  unfold want1
  rw [this]; rfl
theorem want1_other {x : List UInt8} (h : ¬ x.take 7 = preB) : want1 x = none := by
  have : preB.isPrefixOf x = false := by
    cases hh : preB.isPrefixOf x
    · rfl
    · exact absurd (List.prefix_iff_eq_take.1 (List.isPrefixOf_iff_prefix.1 hh)).symm h
  unfold want1
  rw [this]; rfl
theorem velemsS {H : Heap} {b : Nat} {c : Option Nat} {vs : List VV} (hg : H.get b = some (.cells true vs)) (h : vs.length = 32) : velems 32 (.sl b 0 1 c 32) H = some (1, vs) := by
  simp only [velems, hg]
  rw [if_pos (by omega), List.drop_zero, List.take_of_length_le (by omega)]
theorem VCall.newG1 {P : Program} {f : FuncId} {args : List VV} {n z : Nat} {vs : List VV} (ha : ∀ v ∈ args, Nameless v) (hn : ∀ v ∈ vs, Nameless v) (h : VCall P f args ⟨[], 0⟩ (fun v K => v = .gs 1 n z ∧ K = ⟨[(1, .opt vs)], 2⟩)) (H : Heap) :
    VCall P f args H (fun v K => v = .gs (H.next + 1) n z ∧ K = ⟨(H.next + 1, .opt vs) :: H.objs, H.next + 2⟩) := by
  refine VCall.live fun hlive => ?_
  refine VCall.at (n1 := 0) (O1 := []) [] [] rfl trivial (RenL.of ha) h ?_
  rintro v K ⟨rfl, rfl⟩
  have e3 : Nat.blt H.next (H.next + 2) = true := blt_iff.2 (by omega)
  have e5 : Nat.beq H.next (H.next + 1) = false := beqN_ne (by omega)
  have s1 : srcOf [(1, H.next + 1), (0, H.next)] 0 (H.next + 1) = some 1 := by simp only [srcOf0, srcN, Nat.beq_refl]
  have e4 : Nat.blt (H.next + 1) (H.next + 2) = true := blt_iff.2 (by omega)
  refine ⟨.gs (H.next + 1) n z, [(H.next + 1, .opt vs)], ⟨?_, .gs (by simp [backR]), ?_⟩, ?_, rfl, ?_⟩
  · show (wfR 0 (H.next + 2) [(1, H.next + 1), (0, H.next)] && nodupB (ksOf [(1, H.next + 1), (0, H.next)] 0 [(H.next + 1, VObj.opt vs)]) && ((srcN [(1, H.next + 1), (0, H.next)] (H.next + 1)).isSome && true) && (true && true)) = true
    have s1' := (srcOf0 _ _).symm.trans s1
    simp only [ksOf, s1, s1']
    simp only [wfR, srcN, e3, e4, e5]
    rfl
  · refine ⟨?_, trivial⟩
    show (match srcOf [(1, H.next + 1), (0, H.next)] 0 (H.next + 1) with
      | some a => _
      | none => _)
    rw [s1]
    exact ⟨_, rfl, .opt (.of hn)⟩
  · have k3 : memN (H.next + 1) ((restO [] H.objs).map (·.1)) = false := by
      cases hc : memN (H.next + 1) ((restO [] H.objs).map (·.1)) with
      | false => rfl
      | true =>
        rw [restO_nil] at hc
        obtain ⟨x, hx⟩ := memN_dom hc
        have := hlive _ _ hx
        omega
    simp only [List.all_cons, List.all_nil, k3]
    rfl
  · rw [restO_nil]; rfl
theorem View.slO {H : Heap} {b o n z : Nat} {c : Option Nat} {vs : List VV} (hg : H.get b = some (.opt vs)) (hl : o + n * z ≤ vs.length) (hn : ∀ v ∈ vs, Nameless v) : View H (.sl b o n c z) (.ro n ((vs.drop o).take (n * z))) := fun B w M Z ρ y hr hv => by
  cases hv with
  | sl hk hcap hc hzz => exact View.sl (H := H.set b (.cells true vs)) (r := true) (by rw [Heap.get_set, if_pos rfl, hg]; rfl) hl hn B w M Z ρ _ (hr.toCells hg hk) (.sl hk hcap hc hzz)
theorem rparse_call (l : List UInt8) (H : Heap) (hl : l.length ≤ 900) : VCall Tryd.prog 13 [strV l] H (fun v K => v = .gs (H.next + 1) (wants l).length 32 ∧ K = ⟨(H.next + 1, .opt (rowsB (wants l))) :: H.objs, H.next + 2⟩) := by
  refine VCall.newG1 (by simp [nameless_strV]) (rowsB_nameless _) ?_ H
  refine VCall.post (Q := fun v K => v = .gs 1 (wants l).length 32 ∧ K.next = 2 ∧ K.get 1 = some (.opt (rowsB (wants l)))) ?_ (fun v K q => ⟨_, _, ⟨rfl, rfl⟩, by rw [q.1]; exact fun _ _ _ _ h => h, by rw [q.2.1]; exact Nat.le_refl _, fun b x hb => by
    by_cases e : b = 1
    · subst e
      rw [q.2.2]; exact hb
    · exfalso
      have : (Heap.mk [(1, VObj.opt (rowsB (wants l)))] 2).get b = none := by
        show hget _ b = none
        rw [hget_cons, if_neg (fun h => e h.symm)]
        rfl
      rw [this] at hb; cases hb⟩)
  have hrf := fun H => rfields_call l H (by omega)
  have hfl : ∀ x ∈ fieldsB l, x.length ≤ 900 := fun x hx => by have := fieldsGo_le l [] x hx; simp at this; omega
  have hfn : (fieldsB l).length ≤ 901 := by have := fieldsGo_many l []; unfold fieldsB; omega
  have hw : wants l = (fieldsB l).filterMap want1 := rfl
  generalize fieldsB l = fs at *
  generalize wants l = W at *
  refine VCall.go Tryd.func13 rfl ?_
  repeat' (first | with_reducible refine And.intro ?_ ?_ | ((with_reducible intro hc); (try simp only [zA, zB, zC, zD, zE, zF, zG, zH, zI, zJ, zK, zL, zM, zN, zO, zP, zQ, zR, zS, zT, zU, zV, zW] at hc); (first | (exact absurd rfl hc) | (exact absurd trivial hc) | (exfalso; omega) | skip)) | exact Is.mk rfl rfl | ((conv => whnf); first | with_reducible refine And.intro ?_ ?_ | with_reducible intro hx | exact Is.mk rfl rfl | (with_reducible first | apply Val.via | apply ValH.via) | refine ifB_intro ?_ ?_ | refine xA (by omega) ?_ | ((refine xB ?_); intro kw hk1 hk2) | refine xC (by omega) ?_ | refine xD ?_ | refine xE (by omega) ?_ | refine xF (by omega) ?_ | refine xG ?_ | refine xH ?_ | refine xI (by omega) ?_ | refine xJ (by omega) ?_ | (with_reducible refine stopA ?_) | refine Exists.intro _ (And.intro (by rfl) ?_) | refine GOp.drawn (by rfl) (by rfl) (Nat.le_of_ble_eq_true (by rfl)) (by rfl) | refine GOp.via (by rfl) ?_ | refine GWP.drawY mixed _ (by kernel_rfl) (by rfl) ?_ | (refine GCall.mk ((hrf _).mono ?_); rintro _ _ ⟨rfl, rfl⟩) | (with_reducible first | refine stopO ?_ | refine stopE ?_ | refine stopD ?_ | refine stopW ?_ | refine stopG ?_ | refine stopC ?_ | refine stopR ?_)))
  all_goals (first | omega | skip)
  (refine GWP'.mk (GWP.loopB [0] (fun (s : List (List UInt8) × Nat) => s.2 ≤ fs.length ∧ s.1.length ≤ s.2 ∧ (∀ w ∈ s.1, w.length = 32) ∧ s.1 ++ (fs.drop s.2).filterMap want1 = W) (fun s => [(14, iV s.2), (3, .gs 1 s.1.length 32)]) (fun s => [(1, .opt (rowsB s.1))]) 2 (fun s => fs.length - s.2) ([], 0) ⟨Nat.zero_le _, Nat.le_refl _, by simp, hw.symm⟩ ?_); (conv => whnf); refine And.intro ?_ ?_)
  · focus (refine KeptA.of [(0, 1)] rfl rfl (by repeat' (first | exact trivial | refine And.intro rfl ?_)) rfl ?_ ?_; all_goals (repeat' (first | exact trivial | (refine And.intro ?_ ?_) | (refine Exists.intro _ (And.intro rfl ?_)) | (refine RenO.opt ?_) | (refine RenO.toOpt ?_) | (refine RenO.cells ?_) | exact RenO.defs | exact RenL.nil | (refine RenL.cons ?_ ?_) | (first | exact RenL.of (rowsB_nameless _) | (with_reducible exact RenV.sc) | exact RenV.gsN | exact RenV.gsZ | exact RenV.gsL (by decide) | exact RenV.slL (by decide) | ((first | refine RenV.gsE (by (first | exact List.Mem.head _ | exact List.Mem.tail _ (List.Mem.head _) | exact List.Mem.tail _ (List.Mem.tail _ (List.Mem.head _)) | (simp; done))) ?_ | refine RenV.eq (scI_eq ?_) (nameless_sc _)); (first | rfl | omega | (simp only [List.length_append, List.length_cons, List.length_nil, List.length_map, List.length_take, List.length_drop] <;> omega) | (simp only <;> omega) | (simp <;> omega))) | exact RenV.undef) | (with_unfolding_all exact (rfl : (_ : VObj) = _)))))
  rintro ⟨done, i⟩ ⟨h1, h2, hws, h4⟩
  simp only at h1 h2 hws h4 ⊢
  by_cases hil : i < fs.length
  · obtain ⟨x, hx⟩ : ∃ x, fs[i]? = some x := ⟨fs[i], List.getElem?_eq_getElem hil⟩
    have hxl := hfl x (List.mem_of_getElem? hx)
    have hdr : fs.drop i = x :: fs.drop (i + 1) := by
      obtain ⟨hi, e⟩ := List.getElem?_eq_some_iff.1 hx
      rw [List.drop_eq_getElem_cons hi, e]
    rw [hdr, List.filterMap_cons] at h4
    have hxs := str_size x
    have hext7 : (⟨x.toArray⟩ : ByteArray).extract 0 (Int.toNat 7) = ⟨(x.take 7).toArray⟩ := by rw [extS]; rfl
    have hext8 : VV.sc (.string ((⟨x.toArray⟩ : ByteArray).extract (Int.toNat 7) (⟨x.toArray⟩ : ByteArray).size)) = strV (x.drop 7) := by
      rw [extS, str_size]
      show VV.sc (.string ⟨((x.drop 7).take (x.length - 7)).toArray⟩) = _
      rw [List.take_of_length_le (by simp)]
      rfl
    repeat' (first | with_reducible refine And.intro ?_ ?_ | ((with_reducible intro hc); (try simp only [zA, zB, zC, zD, zE, zF, zG, zH, zI, zJ, zK, zL, zM, zN, zO, zP, zQ, zR, zS, zT, zU, zV, zW] at hc); (first | (exact absurd rfl hc) | (exact absurd trivial hc) | (exfalso; omega) | skip)) | exact Is.mk rfl rfl | ((conv => whnf); first | with_reducible refine And.intro ?_ ?_ | with_reducible intro hx | exact Is.mk rfl rfl | (with_reducible first | apply Val.via | apply ValH.via) | refine ifB_intro ?_ ?_ | refine xA (by omega) ?_ | ((refine xB ?_); intro kw hk1 hk2) | refine xC (by omega) ?_ | refine xD ?_ | refine xE (by omega) ?_ | refine xF (by omega) ?_ | refine xG ?_ | refine xH ?_ | refine xI (by omega) ?_ | refine xJ (by omega) ?_ | (with_reducible refine stopA ?_) | refine Exists.intro _ (And.intro (by (first | exact vat_of rfl (maps_at hx) (mul1 rfl rfl) | exact vat_of rfl rfl rfl | rfl)) ?_) | refine GOp.drawn (by rfl) (by rfl) (Nat.le_of_ble_eq_true (by rfl)) (by rfl) | refine GOp.via (by rfl) ?_ | refine GWP.drawY mixed _ (by kernel_rfl) (by rfl) ?_ | fail | (with_reducible first | refine stopO ?_ | refine stopE ?_ | refine stopD ?_ | refine stopW ?_ | refine stopG ?_ | refine stopC ?_ | refine stopR ?_)))
    all_goals (first | omega | skip)
    · have hw1 : want1 x = none := want1_short (by omega)
      (rw [hw1] at h4; focus (refine Done'.mk ⟨(done, i + 1), ⟨by simp only; omega, by simp only; omega, by simp only; exact hws, by simp only; exact h4⟩, ?_, KeptA.of [(1, 1)] rfl rfl (by repeat' (first | exact trivial | refine And.intro rfl ?_)) rfl ?_ ?_⟩; (first | omega | (simp only; omega)); all_goals (repeat' (first | exact trivial | (refine And.intro ?_ ?_) | (refine Exists.intro _ (And.intro rfl ?_)) | (refine RenO.opt ?_) | (refine RenO.toOpt ?_) | (refine RenO.cells ?_) | exact RenO.defs | exact RenL.nil | (refine RenL.cons ?_ ?_) | (first | (first | exact RenL.of (rowsB_nameless _) | exact RenV.eq (scI_eq (by omega)) (nameless_sc _)) | (with_reducible exact RenV.sc) | exact RenV.gsN | exact RenV.gsZ | exact RenV.gsL (by decide) | exact RenV.slL (by decide) | ((first | refine RenV.gsE (by (first | exact List.Mem.head _ | exact List.Mem.tail _ (List.Mem.head _) | exact List.Mem.tail _ (List.Mem.tail _ (List.Mem.head _)) | (simp; done))) ?_ | refine RenV.eq (scI_eq ?_) (nameless_sc _)); (first | rfl | omega | (simp only [List.length_append, List.length_cons, List.length_nil, List.length_map, List.length_take, List.length_drop] <;> omega) | (simp only <;> omega) | (simp <;> omega))) | exact RenV.undef) | (with_unfolding_all exact (rfl : (_ : VObj) = _))))))
    · have hw1 : want1 x = none := want1_other (fun h => hc (by rw [hext7]; simp [h, preB]))
      (rw [hw1] at h4; focus (refine Done'.mk ⟨(done, i + 1), ⟨by simp only; omega, by simp only; omega, by simp only; exact hws, by simp only; exact h4⟩, ?_, KeptA.of [(1, 1)] rfl rfl (by repeat' (first | exact trivial | refine And.intro rfl ?_)) rfl ?_ ?_⟩; (first | omega | (simp only; omega)); all_goals (repeat' (first | exact trivial | (refine And.intro ?_ ?_) | (refine Exists.intro _ (And.intro rfl ?_)) | (refine RenO.opt ?_) | (refine RenO.toOpt ?_) | (refine RenO.cells ?_) | exact RenO.defs | exact RenL.nil | (refine RenL.cons ?_ ?_) | (first | (first | exact RenL.of (rowsB_nameless _) | exact RenV.eq (scI_eq (by omega)) (nameless_sc _)) | (with_reducible exact RenV.sc) | exact RenV.gsN | exact RenV.gsZ | exact RenV.gsL (by decide) | exact RenV.slL (by decide) | ((first | refine RenV.gsE (by (first | exact List.Mem.head _ | exact List.Mem.tail _ (List.Mem.head _) | exact List.Mem.tail _ (List.Mem.tail _ (List.Mem.head _)) | (simp; done))) ?_ | refine RenV.eq (scI_eq ?_) (nameless_sc _)); (first | rfl | omega | (simp only [List.length_append, List.length_cons, List.length_nil, List.length_map, List.length_take, List.length_drop] <;> omega) | (simp only <;> omega) | (simp <;> omega))) | exact RenV.undef) | (with_unfolding_all exact (rfl : (_ : VObj) = _))))))
    · have hp7 : x.take 7 = preB := by
        rw [hext7] at hc
        show x.take 7 = [115, 104, 97, 50, 53, 54, 45]
        simpa using hc
      have hpre : preB.isPrefixOf x = true := List.isPrefixOf_iff_prefix.2 (List.prefix_iff_eq_take.2 hp7.symm)
      have hdl : (x.drop 7).length ≤ 1000 := by simp; omega
      have hr := readP_r64 (x.drop 7)
      refine GCall'.mk (VCall.arg1 (show _ = strV (x.drop 7) from hext8) ?_)
      by_cases h : b64 (r64 (x.drop 7)) = x.drop 7
      · rw [if_pos h] at hr
        refine VCall.mono (rreadY_call h hdl _) ?_
        rintro _ _ ⟨rfl, rfl⟩
        generalize r64 (x.drop 7) = y at *
        by_cases h32 : y.length = 32
        · have hw1 : want1 x = some y := by unfold want1; rw [hpre, hr]; exact if_pos h32
          have hyl : (y.map bV).length = 32 := by rw [List.length_map, h32]
          repeat' (first | with_reducible refine And.intro ?_ ?_ | ((with_reducible intro hc); (try simp only [zA, zB, zC, zD, zE, zF, zG, zH, zI, zJ, zK, zL, zM, zN, zO, zP, zQ, zR, zS, zT, zU, zV, zW] at hc); (first | (exact absurd rfl hc) | (exact absurd trivial hc) | (exfalso; omega) | skip)) | exact Is.mk rfl rfl | ((conv => whnf); first | with_reducible refine And.intro ?_ ?_ | with_reducible intro hx | exact Is.mk rfl rfl | (with_reducible first | apply Val.via | apply ValH.via) | refine ifB_intro ?_ ?_ | refine xA (by omega) ?_ | ((refine xB ?_); intro kw hk1 hk2) | refine xC (by omega) ?_ | refine xD ?_ | refine xE (by omega) ?_ | refine xF (by omega) ?_ | refine xG ?_ | refine xH ?_ | refine xI (by omega) ?_ | refine xJ (by omega) ?_ | (with_reducible refine stopA ?_) | refine Exists.intro _ (And.intro (by rfl) ?_) | refine GOp.drawn (by rfl) (by rfl) (Nat.le_of_ble_eq_true (by rfl)) (by rfl) | refine GOp.via (by rfl) ?_ | refine GWP.drawY mixed _ (by kernel_rfl) (by rfl) ?_ | fail | (with_reducible first | refine stopO ?_ | refine stopE ?_ | refine stopD ?_ | refine stopW ?_ | refine stopG ?_ | refine stopC ?_ | refine stopR ?_)))
          all_goals (first | omega | skip)
          (refine GWP'.mk (GWP.loopB [2] (fun (j : Nat) => j ≤ 32) (fun j => [(40, iV j)]) (fun j => [(2, .cells true ((fillB y j).map bV))]) 3 (fun j => 32 - j) 0 (Nat.zero_le _) ?_); (conv => whnf); refine And.intro ?_ ?_)
          · focus (refine KeptA.of [] rfl rfl (by repeat' (first | exact trivial | refine And.intro rfl ?_)) rfl ?_ ?_; all_goals (repeat' (first | exact trivial | (refine And.intro ?_ ?_) | (refine Exists.intro _ (And.intro rfl ?_)) | (refine RenO.opt ?_) | (refine RenO.toOpt ?_) | (refine RenO.cells ?_) | exact RenO.defs | exact RenL.nil | (refine RenL.cons ?_ ?_) | (first | fail | (with_reducible exact RenV.sc) | exact RenV.gsN | exact RenV.gsZ | exact RenV.gsL (by decide) | exact RenV.slL (by decide) | ((first | refine RenV.gsE (by (first | exact List.Mem.head _ | exact List.Mem.tail _ (List.Mem.head _) | exact List.Mem.tail _ (List.Mem.tail _ (List.Mem.head _)) | (simp; done))) ?_ | refine RenV.eq (scI_eq ?_) (nameless_sc _)); (first | rfl | omega | (simp only [List.length_append, List.length_cons, List.length_nil, List.length_map, List.length_take, List.length_drop] <;> omega) | (simp only <;> omega) | (simp <;> omega))) | exact RenV.undef) | (with_unfolding_all exact (rfl : (_ : VObj) = _)))))
          rintro j hj
          simp only at hj ⊢
          by_cases hjl : j < 32
          · obtain ⟨c, hyj⟩ : ∃ c, y[j]? = some c := ⟨y[j], List.getElem?_eq_getElem (by omega)⟩
            have hfl := fillB_len h32 hj
            repeat' (first | with_reducible refine And.intro ?_ ?_ | ((with_reducible intro hc); (try simp only [zA, zB, zC, zD, zE, zF, zG, zH, zI, zJ, zK, zL, zM, zN, zO, zP, zQ, zR, zS, zT, zU, zV, zW] at hc); (first | (exact absurd rfl hc) | (exact absurd trivial hc) | (exfalso; omega) | skip)) | exact Is.mk rfl rfl | ((conv => whnf); first | with_reducible refine And.intro ?_ ?_ | with_reducible intro hx | exact Is.mk rfl rfl | (with_reducible first | apply Val.via | apply ValH.via) | refine ifB_intro ?_ ?_ | refine xA (by omega) ?_ | ((refine xB ?_); intro kw hk1 hk2) | refine xC (by omega) ?_ | refine xD ?_ | refine xE (by omega) ?_ | refine xF (by omega) ?_ | refine xG ?_ | refine xH ?_ | refine xI (by omega) ?_ | refine xJ (by omega) ?_ | (with_reducible refine stopA ?_) | refine Exists.intro _ (And.intro (by (first | exact vat_of vagg_u8 (map_at hyj) (mul1 rfl rfl) | exact vat_of rfl rfl rfl | rfl)) ?_) | refine GOp.drawn (by rfl) (by rfl) (Nat.le_of_ble_eq_true (by rfl)) (by rfl) | refine GOp.via (by rfl) ?_ | refine GWP.drawY mixed _ (by kernel_rfl) (by rfl) ?_ | fail | (with_reducible first | refine stopO ?_ | refine stopE ?_ | refine stopD ?_ | refine stopW ?_ | refine stopG ?_ | refine stopC ?_ | refine stopR ?_)))
            all_goals (first | omega | skip)
            refine GOp'.stB (b := 2) (c := c) (us := fillB y j) (rs := fillB y (j + 1)) (j := j) rfl rfl (show 0 + j * 1 = j by omega) rfl rfl (by omega) (fillB_set h32 hjl hyj) ?_
            repeat' (first | with_reducible refine And.intro ?_ ?_ | ((with_reducible intro hc); (try simp only [zA, zB, zC, zD, zE, zF, zG, zH, zI, zJ, zK, zL, zM, zN, zO, zP, zQ, zR, zS, zT, zU, zV, zW] at hc); (first | (exact absurd rfl hc) | (exact absurd trivial hc) | (exfalso; omega) | skip)) | exact Is.mk rfl rfl | ((conv => whnf); first | with_reducible refine And.intro ?_ ?_ | with_reducible intro hx | exact Is.mk rfl rfl | (with_reducible first | apply Val.via | apply ValH.via) | refine ifB_intro ?_ ?_ | refine xA (by omega) ?_ | ((refine xB ?_); intro kw hk1 hk2) | refine xC (by omega) ?_ | refine xD ?_ | refine xE (by omega) ?_ | refine xF (by omega) ?_ | refine xG ?_ | refine xH ?_ | refine xI (by omega) ?_ | refine xJ (by omega) ?_ | (with_reducible refine stopA ?_) | refine Exists.intro _ (And.intro (by rfl) ?_) | refine GOp.drawn (by rfl) (by rfl) (Nat.le_of_ble_eq_true (by rfl)) (by rfl) | refine GOp.via (by rfl) ?_ | refine GWP.drawY mixed _ (by kernel_rfl) (by rfl) ?_ | fail | (with_reducible first | refine stopO ?_ | refine stopE ?_ | refine stopD ?_ | refine stopW ?_ | refine stopG ?_ | refine stopC ?_ | refine stopR ?_)))
            all_goals (first | omega | skip)
            focus (refine Done'.mk ⟨(j + 1), (by omega), ?_, KeptA.of [] rfl rfl (by repeat' (first | exact trivial | refine And.intro rfl ?_)) rfl ?_ ?_⟩; (first | omega | (simp only; omega)); all_goals (repeat' (first | exact trivial | (refine And.intro ?_ ?_) | (refine Exists.intro _ (And.intro rfl ?_)) | (refine RenO.opt ?_) | (refine RenO.toOpt ?_) | (refine RenO.cells ?_) | exact RenO.defs | exact RenL.nil | (refine RenL.cons ?_ ?_) | (first | (exact RenL.of (nameless_map nameless_bV _)) | (with_reducible exact RenV.sc) | exact RenV.gsN | exact RenV.gsZ | exact RenV.gsL (by decide) | exact RenV.slL (by decide) | ((first | refine RenV.gsE (by (first | exact List.Mem.head _ | exact List.Mem.tail _ (List.Mem.head _) | exact List.Mem.tail _ (List.Mem.tail _ (List.Mem.head _)) | (simp; done))) ?_ | refine RenV.eq (scI_eq ?_) (nameless_sc _)); (first | rfl | omega | (simp only [List.length_append, List.length_cons, List.length_nil, List.length_map, List.length_take, List.length_drop] <;> omega) | (simp only <;> omega) | (simp <;> omega))) | exact RenV.undef) | (with_unfolding_all exact (rfl : (_ : VObj) = _)))))
          · obtain rfl : j = 32 := by omega
            rw [fillB_all h32]
            repeat' (first | with_reducible refine And.intro ?_ ?_ | ((with_reducible intro hc); (try simp only [zA, zB, zC, zD, zE, zF, zG, zH, zI, zJ, zK, zL, zM, zN, zO, zP, zQ, zR, zS, zT, zU, zV, zW] at hc); (first | (exact absurd rfl hc) | (exact absurd trivial hc) | (exfalso; omega) | skip)) | exact Is.mk rfl rfl | ((conv => whnf); first | with_reducible refine And.intro ?_ ?_ | with_reducible intro hx | exact Is.mk rfl rfl | (with_reducible first | apply Val.via | apply ValH.via) | refine ifB_intro ?_ ?_ | refine xA (by omega) ?_ | ((refine xB ?_); intro kw hk1 hk2) | refine xC (by omega) ?_ | refine xD ?_ | refine xE (by omega) ?_ | refine xF (by omega) ?_ | refine xG ?_ | refine xH ?_ | refine xI (by omega) ?_ | refine xJ (by omega) ?_ | (with_reducible refine stopA ?_) | refine Exists.intro _ (And.intro (by (first | exact vat_arr hyl rfl | rfl)) ?_) | refine GOp.drawn (by rfl) (by rfl) (Nat.le_of_ble_eq_true (by rfl)) (by rfl) | refine GOp.via (by rfl) ?_ | refine GWP.drawY mixed _ (by kernel_rfl) (by rfl) ?_ | fail | (with_reducible first | refine stopO ?_ | refine stopE ?_ | refine stopD ?_ | refine stopW ?_ | refine stopG ?_ | refine stopC ?_ | refine stopR ?_)))
            all_goals (first | omega | skip)
            refine GOp'.mkA rfl rfl h32 ?_
            repeat' (first | with_reducible refine And.intro ?_ ?_ | ((with_reducible intro hc); (try simp only [zA, zB, zC, zD, zE, zF, zG, zH, zI, zJ, zK, zL, zM, zN, zO, zP, zQ, zR, zS, zT, zU, zV, zW] at hc); (first | (exact absurd rfl hc) | (exact absurd trivial hc) | (exfalso; omega) | skip)) | exact Is.mk rfl rfl | ((conv => whnf); first | with_reducible refine And.intro ?_ ?_ | with_reducible intro hx | exact Is.mk rfl rfl | (with_reducible first | apply Val.via | apply ValH.via) | refine ifB_intro ?_ ?_ | refine xA (by omega) ?_ | ((refine xB ?_); intro kw hk1 hk2) | refine xC (by omega) ?_ | refine xD ?_ | refine xE (by omega) ?_ | refine xF (by omega) ?_ | refine xG ?_ | refine xH ?_ | refine xI (by omega) ?_ | refine xJ (by omega) ?_ | (with_reducible refine stopA ?_) | refine Exists.intro _ (And.intro (by rfl) ?_) | refine GOp.drawn (by rfl) (by rfl) (Nat.le_of_ble_eq_true (by rfl)) (by rfl) | refine GOp.via (by rfl) ?_ | refine GWP.drawY mixed _ (by kernel_rfl) (by rfl) ?_ | (refine stopO (GOp'.grow rfl sty_32 (d := .slice 34) Tryd.underlying24 (by intro k h; cases h) rfl (velemsS (vs := y.map bV) rfl hyl) (one_map _) rfl (rowsB_len hws) (by omega) (by omega) ?_)) | (with_reducible first | refine stopO ?_ | refine stopE ?_ | refine stopD ?_ | refine stopW ?_ | refine stopG ?_ | refine stopC ?_ | refine stopR ?_)))
            all_goals (first | omega | skip)
            rw [hw1] at h4
            have hws2 : ∀ w ∈ done ++ [y], w.length = 32 := fun w hw => (List.mem_append.1 hw).elim (hws w) fun h => by rw [List.mem_singleton.1 h]; exact h32
            focus (refine Done'.mk ⟨(done ++ [y], i + 1), ⟨by simp only; omega, by simp only [List.length_append, List.length_cons, List.length_nil]; omega, by simp only; exact hws2, by simp only; rw [← h4]; simp⟩, ?_, KeptA.of [(4, 1)] rfl rfl (by repeat' (first | exact trivial | refine And.intro rfl ?_)) rfl ?_ ?_⟩; (first | omega | (simp only; omega)); all_goals (repeat' (first | exact trivial | (refine And.intro ?_ ?_) | (refine Exists.intro _ (And.intro rfl ?_)) | (refine RenO.opt ?_) | (refine RenO.toOpt ?_) | (refine RenO.cells ?_) | exact RenO.defs | exact RenL.nil | (refine RenL.cons ?_ ?_) | (first | (first | exact RenL.eq (rowsB_snoc _ _).symm (rowsB_nameless _) | exact RenV.eq (scI_eq (by omega)) (nameless_sc _)) | (with_reducible exact RenV.sc) | exact RenV.gsN | exact RenV.gsZ | exact RenV.gsL (by decide) | exact RenV.slL (by decide) | ((first | refine RenV.gsE (by (first | exact List.Mem.head _ | exact List.Mem.tail _ (List.Mem.head _) | exact List.Mem.tail _ (List.Mem.tail _ (List.Mem.head _)) | (simp; done))) ?_ | refine RenV.eq (scI_eq ?_) (nameless_sc _)); (first | rfl | omega | (simp only [List.length_append, List.length_cons, List.length_nil, List.length_map, List.length_take, List.length_drop] <;> omega) | (simp only <;> omega) | (simp <;> omega))) | exact RenV.undef) | (with_unfolding_all exact (rfl : (_ : VObj) = _)))))
        · have hw1 : want1 x = none := by unfold want1; rw [hpre, hr]; exact if_neg h32
          repeat' (first | with_reducible refine And.intro ?_ ?_ | ((with_reducible intro hc); (try simp only [zA, zB, zC, zD, zE, zF, zG, zH, zI, zJ, zK, zL, zM, zN, zO, zP, zQ, zR, zS, zT, zU, zV, zW] at hc); (first | (exact absurd rfl hc) | (exact absurd trivial hc) | (exfalso; omega) | skip)) | exact Is.mk rfl rfl | ((conv => whnf); first | with_reducible refine And.intro ?_ ?_ | with_reducible intro hx | exact Is.mk rfl rfl | (with_reducible first | apply Val.via | apply ValH.via) | refine ifB_intro ?_ ?_ | refine xA (by omega) ?_ | ((refine xB ?_); intro kw hk1 hk2) | refine xC (by omega) ?_ | refine xD ?_ | refine xE (by omega) ?_ | refine xF (by omega) ?_ | refine xG ?_ | refine xH ?_ | refine xI (by omega) ?_ | refine xJ (by omega) ?_ | (with_reducible refine stopA ?_) | refine Exists.intro _ (And.intro (by rfl) ?_) | refine GOp.drawn (by rfl) (by rfl) (Nat.le_of_ble_eq_true (by rfl)) (by rfl) | refine GOp.via (by rfl) ?_ | refine GWP.drawY mixed _ (by kernel_rfl) (by rfl) ?_ | fail | (with_reducible first | refine stopO ?_ | refine stopE ?_ | refine stopD ?_ | refine stopW ?_ | refine stopG ?_ | refine stopC ?_ | refine stopR ?_)))
          all_goals (first | omega | skip)
          (rw [hw1] at h4; focus (refine Done'.mk ⟨(done, i + 1), ⟨by simp only; omega, by simp only; omega, by simp only; exact hws, by simp only; exact h4⟩, ?_, KeptA.of [(1, 1)] rfl rfl (by repeat' (first | exact trivial | refine And.intro rfl ?_)) rfl ?_ ?_⟩; (first | omega | (simp only; omega)); all_goals (repeat' (first | exact trivial | (refine And.intro ?_ ?_) | (refine Exists.intro _ (And.intro rfl ?_)) | (refine RenO.opt ?_) | (refine RenO.toOpt ?_) | (refine RenO.cells ?_) | exact RenO.defs | exact RenL.nil | (refine RenL.cons ?_ ?_) | (first | (first | exact RenL.of (rowsB_nameless _) | exact RenV.eq (scI_eq (by omega)) (nameless_sc _)) | (with_reducible exact RenV.sc) | exact RenV.gsN | exact RenV.gsZ | exact RenV.gsL (by decide) | exact RenV.slL (by decide) | ((first | refine RenV.gsE (by (first | exact List.Mem.head _ | exact List.Mem.tail _ (List.Mem.head _) | exact List.Mem.tail _ (List.Mem.tail _ (List.Mem.head _)) | (simp; done))) ?_ | refine RenV.eq (scI_eq ?_) (nameless_sc _)); (first | rfl | omega | (simp only [List.length_append, List.length_cons, List.length_nil, List.length_map, List.length_take, List.length_drop] <;> omega) | (simp only <;> omega) | (simp <;> omega))) | exact RenV.undef) | (with_unfolding_all exact (rfl : (_ : VObj) = _))))))
      · rw [if_neg h] at hr
        have hw1 : want1 x = none := by unfold want1; rw [hpre, hr]; rfl
        refine VCall.mono (rreadN_call h hdl _) ?_
        rintro _ _ ⟨rfl, rfl⟩
        repeat' (first | with_reducible refine And.intro ?_ ?_ | ((with_reducible intro hc); (try simp only [zA, zB, zC, zD, zE, zF, zG, zH, zI, zJ, zK, zL, zM, zN, zO, zP, zQ, zR, zS, zT, zU, zV, zW] at hc); (first | (exact absurd rfl hc) | (exact absurd trivial hc) | (exfalso; omega) | skip)) | exact Is.mk rfl rfl | ((conv => whnf); first | with_reducible refine And.intro ?_ ?_ | with_reducible intro hx | exact Is.mk rfl rfl | (with_reducible first | apply Val.via | apply ValH.via) | refine ifB_intro ?_ ?_ | refine xA (by omega) ?_ | ((refine xB ?_); intro kw hk1 hk2) | refine xC (by omega) ?_ | refine xD ?_ | refine xE (by omega) ?_ | refine xF (by omega) ?_ | refine xG ?_ | refine xH ?_ | refine xI (by omega) ?_ | refine xJ (by omega) ?_ | (with_reducible refine stopA ?_) | refine Exists.intro _ (And.intro (by rfl) ?_) | refine GOp.drawn (by rfl) (by rfl) (Nat.le_of_ble_eq_true (by rfl)) (by rfl) | refine GOp.via (by rfl) ?_ | refine GWP.drawY mixed _ (by kernel_rfl) (by rfl) ?_ | fail | (with_reducible first | refine stopO ?_ | refine stopE ?_ | refine stopD ?_ | refine stopW ?_ | refine stopG ?_ | refine stopC ?_ | refine stopR ?_)))
        all_goals (first | omega | skip)
        (rw [hw1] at h4; focus (refine Done'.mk ⟨(done, i + 1), ⟨by simp only; omega, by simp only; omega, by simp only; exact hws, by simp only; exact h4⟩, ?_, KeptA.of [(1, 1)] rfl rfl (by repeat' (first | exact trivial | refine And.intro rfl ?_)) rfl ?_ ?_⟩; (first | omega | (simp only; omega)); all_goals (repeat' (first | exact trivial | (refine And.intro ?_ ?_) | (refine Exists.intro _ (And.intro rfl ?_)) | (refine RenO.opt ?_) | (refine RenO.toOpt ?_) | (refine RenO.cells ?_) | exact RenO.defs | exact RenL.nil | (refine RenL.cons ?_ ?_) | (first | (first | exact RenL.of (rowsB_nameless _) | exact RenV.eq (scI_eq (by omega)) (nameless_sc _)) | (with_reducible exact RenV.sc) | exact RenV.gsN | exact RenV.gsZ | exact RenV.gsL (by decide) | exact RenV.slL (by decide) | ((first | refine RenV.gsE (by (first | exact List.Mem.head _ | exact List.Mem.tail _ (List.Mem.head _) | exact List.Mem.tail _ (List.Mem.tail _ (List.Mem.head _)) | (simp; done))) ?_ | refine RenV.eq (scI_eq ?_) (nameless_sc _)); (first | rfl | omega | (simp only [List.length_append, List.length_cons, List.length_nil, List.length_map, List.length_take, List.length_drop] <;> omega) | (simp only <;> omega) | (simp <;> omega))) | exact RenV.undef) | (with_unfolding_all exact (rfl : (_ : VObj) = _))))))
  · obtain rfl : i = fs.length := by omega
    rw [List.drop_length, List.filterMap_nil, List.append_nil] at h4
    subst h4
    repeat' (first | with_reducible refine And.intro ?_ ?_ | ((with_reducible intro hc); (try simp only [zA, zB, zC, zD, zE, zF, zG, zH, zI, zJ, zK, zL, zM, zN, zO, zP, zQ, zR, zS, zT, zU, zV, zW] at hc); (first | (exact absurd rfl hc) | (exact absurd trivial hc) | (exfalso; omega) | skip)) | exact Is.mk rfl rfl | ((conv => whnf); first | with_reducible refine And.intro ?_ ?_ | with_reducible intro hx | exact Is.mk rfl rfl | (with_reducible first | apply Val.via | apply ValH.via) | refine ifB_intro ?_ ?_ | refine xA (by omega) ?_ | ((refine xB ?_); intro kw hk1 hk2) | refine xC (by omega) ?_ | refine xD ?_ | refine xE (by omega) ?_ | refine xF (by omega) ?_ | refine xG ?_ | refine xH ?_ | refine xI (by omega) ?_ | refine xJ (by omega) ?_ | (with_reducible refine stopA ?_) | refine Exists.intro _ (And.intro (by rfl) ?_) | refine GOp.drawn (by rfl) (by rfl) (Nat.le_of_ble_eq_true (by rfl)) (by rfl) | refine GOp.via (by rfl) ?_ | refine GWP.drawY mixed _ (by kernel_rfl) (by rfl) ?_ | fail | (with_reducible first | refine stopO ?_ | refine stopE ?_ | refine stopD ?_ | refine stopW ?_ | refine stopG ?_ | refine stopC ?_ | refine stopR ?_)))
    all_goals (first | omega | skip)
    exact Done'.mk ⟨rfl, rfl, rfl⟩
end Go.Proofs.YtmmjgbdihgdekaaDoor

/- All of a want, and the law's all, walked. -/
namespace Go.Proofs.YtmmjgbdihgdekaaDoor
open Go Go.RowKit
set_option linter.unusedSimpArgs false
set_option linter.unusedVariables false
set_option maxRecDepth 100000
set_option maxHeartbeats 4000000
def rowsV (ws : List (List UInt8)) : VV := .ro ws.length (rowsB ws)
theorem nameless_rowsV (ws : List (List UInt8)) : Nameless (rowsV ws) := nameless_ro (rowsB_nameless ws)
def allW (v : VV) : VV := .fn (.func 113) [] [.rp [v] 0]
theorem nameless_allW (ws : List (List UInt8)) : Nameless (allW (rowsV ws)) := nameless_fn (by simp) (by
  simp only [List.mem_singleton, forall_eq]
  exact nameless_rp (by simp [nameless_rowsV]))
theorem wall_call (ws : List (List UInt8)) (H : Heap) : VCall Tryd.prog 15 [wantV ws] H (fun v K => v = allW (rowsV ws) ∧ K = H) := by
  refine VCall.frozen (Q := fun v K => Frz K v (allW (rowsV ws))) (by simp [nameless_wantV]) ?_ (fun v K h => h)
  refine VCall.go Tryd.func15 rfl ?_
  repeat' (first | with_reducible refine And.intro ?_ ?_ | ((with_reducible intro hc); (try simp only [zA, zB, zC, zD, zE, zF, zG, zH, zI, zJ, zK, zL, zM, zN, zO, zP, zQ, zR, zS, zT, zU, zV, zW] at hc); (first | (exact absurd rfl hc) | (exact absurd trivial hc) | (exfalso; omega) | skip)) | exact Is.mk rfl rfl | ((conv => whnf); first | with_reducible refine And.intro ?_ ?_ | with_reducible intro hx | exact Is.mk rfl rfl | (with_reducible first | apply Val.via | apply ValH.via) | refine ifB_intro ?_ ?_ | refine xA (by omega) ?_ | ((refine xB ?_); intro kw hk1 hk2) | refine xC (by omega) ?_ | refine xD ?_ | refine xE (by omega) ?_ | refine xF (by omega) ?_ | refine xG ?_ | refine xH ?_ | refine xI (by omega) ?_ | refine xJ (by omega) ?_ | (with_reducible refine stopA ?_) | refine Exists.intro _ (And.intro (by (first | exact vat_of rfl rfl rfl)) ?_) | refine GOp.drawn (by rfl) (by rfl) (Nat.le_of_ble_eq_true (by rfl)) (by rfl) | refine GOp.via (by rfl) ?_ | refine GWP.drawY mixed _ (by kernel_rfl) (by rfl) ?_ | (refine GCall.mk (VCall.inl Tryd.func64 rfl ?_)) | (with_reducible first | refine stopO ?_ | refine stopE ?_ | refine stopD ?_ | refine stopW ?_ | refine stopG ?_ | refine stopC ?_ | refine stopR ?_)))
  exact Done'.mk (Frz.fn .nil (.cons (Frz.ptr (vs := [rowsV ws]) rfl (FrzL.of (by simp [nameless_rowsV]))) .nil))
theorem lall_call (ws : List (List UInt8)) (hws : ∀ w ∈ ws, w.length = 32) (hn : ws.length ≤ 1000) (H : Heap) : VCall Tryd.prog 14 [allW (rowsV ws)] H (fun v K => v = rowsV ws ∧ K = H) := by
  refine VCall.frozen (Q := fun v K => Frz K v (rowsV ws)) (by simp [nameless_allW]) ?_ (fun v K h => h)
  refine VCall.go Tryd.func14 rfl ?_
  repeat' (first | with_reducible refine And.intro ?_ ?_ | ((with_reducible intro hc); (try simp only [zA, zB, zC, zD, zE, zF, zG, zH, zI, zJ, zK, zL, zM, zN, zO, zP, zQ, zR, zS, zT, zU, zV, zW] at hc); (first | (exact absurd rfl hc) | (exact absurd trivial hc) | (exfalso; omega) | skip)) | ((conv => whnf); first | with_reducible refine And.intro ?_ ?_ | refine ifB_intro ?_ ?_ | refine xA (by omega) ?_ | ((refine xB ?_); intro kw hk1 hk2) | refine xC (by omega) ?_ | refine xD ?_ | refine xE (by omega) ?_ | refine xF (by omega) ?_ | refine xG ?_ | refine xH ?_ | refine xI (by omega) ?_ | refine xJ (by omega) ?_ | (with_reducible refine stopA ?_) | refine Exists.intro _ (And.intro (by rfl) ?_) | refine GOp.via (by rfl) ?_ | (with_reducible first | refine stopO ?_ | refine stopE ?_ | refine stopD ?_ | refine stopW ?_ | refine stopG ?_ | refine stopC ?_ | refine stopR ?_)))
  refine GWP'.mk (GWP.range0 rfl rfl ?_)
  refine VCall.go Tryd.func113 rfl ?_
  repeat' (first | with_reducible refine And.intro ?_ ?_ | ((with_reducible intro hc); (try simp only [zA, zB, zC, zD, zE, zF, zG, zH, zI, zJ, zK, zL, zM, zN, zO, zP, zQ, zR, zS, zT, zU, zV, zW] at hc); (first | (exact absurd rfl hc) | (exact absurd trivial hc) | (exfalso; omega) | skip)) | ((conv => whnf); first | with_reducible refine And.intro ?_ ?_ | refine ifB_intro ?_ ?_ | refine xA (by omega) ?_ | ((refine xB ?_); intro kw hk1 hk2) | refine xC (by omega) ?_ | refine xD ?_ | refine xE (by omega) ?_ | refine xF (by omega) ?_ | refine xG ?_ | refine xH ?_ | refine xI (by omega) ?_ | refine xJ (by omega) ?_ | (with_reducible refine stopA ?_) | refine Exists.intro _ (And.intro (by first | exact vat_of rfl rfl rfl | rfl) ?_) | refine GOp.via (by rfl) ?_ | (with_reducible first | refine stopO ?_ | refine stopE ?_ | refine stopD ?_ | refine stopW ?_ | refine stopG ?_ | refine stopC ?_ | refine stopR ?_)))
  (refine GWP'.mk (GWP.loopB [0] (fun (i : Nat) => i ≤ ws.length) (fun i => [(7, iV i)]) (fun i => [(0, .cells true [.gs 3 i 32]), (3, .opt (rowsB (ws.take i)))]) 4 (fun i => ws.length - i) 0 (Nat.zero_le _) ?_); (conv => whnf); refine And.intro ?_ ?_)
  · focus (refine KeptA.of [] rfl rfl (by repeat' (first | exact trivial | refine And.intro rfl ?_)) rfl ?_ ?_; all_goals (repeat' (first | exact trivial | (refine And.intro ?_ ?_) | (refine Exists.intro _ (And.intro rfl ?_)) | (refine RenO.opt ?_) | (refine RenO.toOpt ?_) | (refine RenO.cells ?_) | exact RenO.defs | exact RenL.nil | (refine RenL.cons ?_ ?_) | (first | exact RenL.of (rowsB_nameless _) | (with_reducible exact RenV.sc) | exact RenV.gsN | exact RenV.gsZ | exact RenV.gsL (by decide) | exact RenV.slL (by decide) | ((first | refine RenV.gsE (by (first | exact List.Mem.head _ | exact List.Mem.tail _ (List.Mem.head _) | exact List.Mem.tail _ (List.Mem.tail _ (List.Mem.head _)) | (simp; done))) ?_ | refine RenV.eq (scI_eq ?_) (nameless_sc _)); (first | rfl | omega | (simp only [List.length_append, List.length_cons, List.length_nil, List.length_map, List.length_take, List.length_drop] <;> omega) | (simp only <;> omega) | (simp <;> omega))) | exact RenV.undef) | (with_unfolding_all exact (rfl : (_ : VObj) = _)))))
  rintro i hi
  simp only at hi ⊢
  by_cases hil : i < ws.length
  · obtain ⟨w, hw⟩ : ∃ w, ws[i]? = some w := ⟨ws[i], List.getElem?_eq_getElem hil⟩
    have hwl := hws w (List.mem_of_getElem? hw)
    have hwb := one_map w
    have hw32 : (w.map bV).length = 32 := by rw [List.length_map, hwl]
    have htk : ws.take (i + 1) = ws.take i ++ [w] := by
      obtain ⟨hi2, e⟩ := List.getElem?_eq_some_iff.1 hw
      rw [List.take_succ_eq_append_getElem hi2, e]
    have hrl : (rowsB (ws.take i)).length = i * 32 := by
      rw [rowsB_len (fun x hx => hws x (List.mem_of_mem_take hx)), List.length_take, Nat.min_eq_left (by omega)]
    repeat' (first | with_reducible refine And.intro ?_ ?_ | ((with_reducible intro hc); (try simp only [zA, zB, zC, zD, zE, zF, zG, zH, zI, zJ, zK, zL, zM, zN, zO, zP, zQ, zR, zS, zT, zU, zV, zW] at hc); (first | (exact absurd rfl hc) | (exact absurd trivial hc) | (exfalso; omega) | skip)) | ((conv => whnf); first | with_reducible refine And.intro ?_ ?_ | refine ifB_intro ?_ ?_ | refine xA (by omega) ?_ | ((refine xB ?_); intro kw hk1 hk2) | refine xC (by omega) ?_ | refine xD ?_ | refine xE (by omega) ?_ | refine xF (by omega) ?_ | refine xG ?_ | refine xH ?_ | refine xI (by omega) ?_ | refine xJ (by omega) ?_ | (with_reducible refine stopA ?_) | refine Exists.intro _ (And.intro (by (first | exact vat_rowsB hws hw rfl | exact vat_arr hw32 rfl | exact vat_of rfl rfl rfl | rfl)) ?_) | (refine GOp.stA (vs := w.map bV) (by rfl) (by rfl) (by rfl) (by rfl) (by rfl) hw32 hwb ?_) | refine GOp.via (by rfl) ?_ | (with_reducible first | refine stopO ?_ | refine stopE ?_ | refine stopD ?_ | refine stopW ?_ | refine stopG ?_) | fail | (with_reducible refine stopC ?_) | (with_reducible refine stopR ?_)))
    all_goals (first | omega | skip)
    (refine GRound'.mk (VRound.go rfl rfl ?_))
    repeat' (first | with_reducible refine And.intro ?_ ?_ | ((with_reducible intro hc); (try simp only [zA, zB, zC, zD, zE, zF, zG, zH, zI, zJ, zK, zL, zM, zN, zO, zP, zQ, zR, zS, zT, zU, zV, zW] at hc); (first | (exact absurd rfl hc) | (exact absurd trivial hc) | (exfalso; omega) | skip)) | ((conv => whnf); first | with_reducible refine And.intro ?_ ?_ | refine ifB_intro ?_ ?_ | refine xA (by omega) ?_ | ((refine xB ?_); intro kw hk1 hk2) | refine xC (by omega) ?_ | refine xD ?_ | refine xE (by omega) ?_ | refine xF (by omega) ?_ | refine xG ?_ | refine xH ?_ | refine xI (by omega) ?_ | refine xJ (by omega) ?_ | (with_reducible refine stopA ?_) | refine Exists.intro _ (And.intro (by (first | exact vat_arr hw32 rfl | exact vat_of rfl rfl rfl | rfl)) ?_) | (refine GOp.stA (vs := w.map bV) (by rfl) (by rfl) (by rfl) (by rfl) (by rfl) hw32 hwb ?_) | refine GOp.via (by rfl) ?_ | (with_reducible first | refine stopO ?_ | refine stopE ?_ | refine stopD ?_ | refine stopW ?_ | refine stopG ?_) | fail | (with_reducible refine stopC ?_) | (with_reducible refine stopR ?_)))
    all_goals (first | omega | skip)
    refine GOp'.mkA rfl rfl hwl ?_
    repeat' (first | with_reducible refine And.intro ?_ ?_ | ((with_reducible intro hc); (try simp only [zA, zB, zC, zD, zE, zF, zG, zH, zI, zJ, zK, zL, zM, zN, zO, zP, zQ, zR, zS, zT, zU, zV, zW] at hc); (first | (exact absurd rfl hc) | (exact absurd trivial hc) | (exfalso; omega) | skip)) | exact Is.mk rfl rfl | ((conv => whnf); first | with_reducible refine And.intro ?_ ?_ | with_reducible intro hx | exact Is.mk rfl rfl | (with_reducible first | apply Val.via | apply ValH.via) | refine ifB_intro ?_ ?_ | refine xA (by omega) ?_ | ((refine xB ?_); intro kw hk1 hk2) | refine xC (by omega) ?_ | refine xD ?_ | refine xE (by omega) ?_ | refine xF (by omega) ?_ | refine xG ?_ | refine xH ?_ | refine xI (by omega) ?_ | refine xJ (by omega) ?_ | (with_reducible refine stopA ?_) | refine Exists.intro _ (And.intro (by rfl) ?_) | refine GOp.drawn (by rfl) (by rfl) (Nat.le_of_ble_eq_true (by rfl)) (by rfl) | refine GOp.via (by rfl) ?_ | refine GWP.drawY mixed _ (by kernel_rfl) (by rfl) ?_ | (refine stopO (GOp'.grow rfl sty_32 (d := .slice 34) Tryd.underlying24 (by intro k h; cases h) rfl (velemsS (vs := w.map bV) rfl hw32) (one_map _) rfl hrl (by omega) (by omega) ?_)) | (with_reducible first | refine stopO ?_ | refine stopE ?_ | refine stopD ?_ | refine stopW ?_ | refine stopG ?_ | refine stopC ?_ | refine stopR ?_)))
    all_goals (first | omega | skip)
    repeat' (first | with_reducible refine And.intro ?_ ?_ | ((with_reducible intro hc); (try simp only [zA, zB, zC, zD, zE, zF, zG, zH, zI, zJ, zK, zL, zM, zN, zO, zP, zQ, zR, zS, zT, zU, zV, zW] at hc); (first | (exact absurd rfl hc) | (exact absurd trivial hc) | (exfalso; omega) | skip)) | exact Is.mk rfl rfl | ((conv => whnf); first | with_reducible refine And.intro ?_ ?_ | with_reducible intro hx | exact Is.mk rfl rfl | (with_reducible first | apply Val.via | apply ValH.via) | refine ifB_intro ?_ ?_ | refine xA (by omega) ?_ | ((refine xB ?_); intro kw hk1 hk2) | refine xC (by omega) ?_ | refine xD ?_ | refine xE (by omega) ?_ | refine xF (by omega) ?_ | refine xG ?_ | refine xH ?_ | refine xI (by omega) ?_ | refine xJ (by omega) ?_ | (with_reducible refine stopA ?_) | refine Exists.intro _ (And.intro (by (first | exact vat_of rfl rfl rfl | rfl)) ?_) | refine GOp.drawn (by rfl) (by rfl) (Nat.le_of_ble_eq_true (by rfl)) (by rfl) | refine GOp.via (by rfl) ?_ | refine GWP.drawY mixed _ (by kernel_rfl) (by rfl) ?_ | fail | (with_reducible first | refine stopO ?_ | refine stopE ?_ | refine stopD ?_ | refine stopW ?_ | refine stopG ?_ | refine stopC ?_ | refine stopR ?_)))
    all_goals (first | omega | skip)
    focus (refine Done'.mk ⟨(i + 1), (by omega), ?_, KeptA.of [(7, 3)] rfl rfl (by repeat' (first | exact trivial | refine And.intro rfl ?_)) rfl ?_ ?_⟩; (first | omega | (simp only; omega)); all_goals (repeat' (first | exact trivial | (refine And.intro ?_ ?_) | (refine Exists.intro _ (And.intro rfl ?_)) | (refine RenO.opt ?_) | (refine RenO.toOpt ?_) | (refine RenO.cells ?_) | exact RenO.defs | exact RenL.nil | (refine RenL.cons ?_ ?_) | (first | (first | exact RenL.eq (by rw [htk, rowsB_snoc]) (rowsB_nameless _)) | (with_reducible exact RenV.sc) | exact RenV.gsN | exact RenV.gsZ | exact RenV.gsL (by decide) | exact RenV.slL (by decide) | ((first | refine RenV.gsE (by (first | exact List.Mem.head _ | exact List.Mem.tail _ (List.Mem.head _) | exact List.Mem.tail _ (List.Mem.tail _ (List.Mem.head _)) | (simp; done))) ?_ | refine RenV.eq (scI_eq ?_) (nameless_sc _)); (first | rfl | omega | (simp only [List.length_append, List.length_cons, List.length_nil, List.length_map, List.length_take, List.length_drop] <;> omega) | (simp only <;> omega) | (simp <;> omega))) | exact RenV.undef) | (with_unfolding_all exact (rfl : (_ : VObj) = _)))))
  · obtain rfl : i = ws.length := by omega
    rw [List.take_length]
    repeat' (first | with_reducible refine And.intro ?_ ?_ | ((with_reducible intro hc); (try simp only [zA, zB, zC, zD, zE, zF, zG, zH, zI, zJ, zK, zL, zM, zN, zO, zP, zQ, zR, zS, zT, zU, zV, zW] at hc); (first | (exact absurd rfl hc) | (exact absurd trivial hc) | (exfalso; omega) | skip)) | exact Is.mk rfl rfl | ((conv => whnf); first | with_reducible refine And.intro ?_ ?_ | with_reducible intro hx | exact Is.mk rfl rfl | (with_reducible first | apply Val.via | apply ValH.via) | refine ifB_intro ?_ ?_ | refine xA (by omega) ?_ | ((refine xB ?_); intro kw hk1 hk2) | refine xC (by omega) ?_ | refine xD ?_ | refine xE (by omega) ?_ | refine xF (by omega) ?_ | refine xG ?_ | refine xH ?_ | refine xI (by omega) ?_ | refine xJ (by omega) ?_ | (with_reducible refine stopA ?_) | refine Exists.intro _ (And.intro (by (first | exact vat_of rfl rfl rfl | rfl)) ?_) | refine GOp.drawn (by rfl) (by rfl) (Nat.le_of_ble_eq_true (by rfl)) (by rfl) | refine GOp.via (by rfl) ?_ | refine GWP.drawY mixed _ (by kernel_rfl) (by rfl) ?_ | fail | (with_reducible first | refine stopO ?_ | refine stopE ?_ | refine stopD ?_ | refine stopW ?_ | refine stopG ?_ | refine stopC ?_ | refine stopR ?_)))
    all_goals (first | omega | skip)
    (refine Done'.mk ⟨_, _, _, _, _, _, _, rfl, (by intro h; cases h), ?_⟩)
    repeat' (first | with_reducible refine And.intro ?_ ?_ | ((with_reducible intro hc); (try simp only [zA, zB, zC, zD, zE, zF, zG, zH, zI, zJ, zK, zL, zM, zN, zO, zP, zQ, zR, zS, zT, zU, zV, zW] at hc); (first | (exact absurd rfl hc) | (exact absurd trivial hc) | (exfalso; omega) | skip)) | exact Is.mk rfl rfl | ((conv => whnf); first | with_reducible refine And.intro ?_ ?_ | with_reducible intro hx | exact Is.mk rfl rfl | (with_reducible first | apply Val.via | apply ValH.via) | refine ifB_intro ?_ ?_ | refine xA (by omega) ?_ | ((refine xB ?_); intro kw hk1 hk2) | refine xC (by omega) ?_ | refine xD ?_ | refine xE (by omega) ?_ | refine xF (by omega) ?_ | refine xG ?_ | refine xH ?_ | refine xI (by omega) ?_ | refine xJ (by omega) ?_ | (with_reducible refine stopA ?_) | refine Exists.intro _ (And.intro (by (first | exact vat_of rfl rfl rfl | rfl)) ?_) | refine GOp.drawn (by rfl) (by rfl) (Nat.le_of_ble_eq_true (by rfl)) (by rfl) | refine GOp.via (by rfl) ?_ | refine GWP.drawY mixed _ (by kernel_rfl) (by rfl) ?_ | fail | (with_reducible first | refine stopO ?_ | refine stopE ?_ | refine stopD ?_ | refine stopW ?_ | refine stopG ?_ | refine stopC ?_ | refine stopR ?_)))
    all_goals (first | omega | skip)
    exact Done'.mk (Frz.gs rfl (rowsB_len hws) (rowsB_nameless _))
end Go.Proofs.YtmmjgbdihgdekaaDoor

/- The words of a want, walked. -/
namespace Go.Proofs.YtmmjgbdihgdekaaDoor
open Go Go.RowKit
set_option linter.unusedSimpArgs false
set_option linter.unusedVariables false
set_option maxRecDepth 100000
set_option maxHeartbeats 4000000
def txtF (s : List UInt8 × Nat) (w : List UInt8) : List UInt8 × Nat := (s.1 ++ (if s.2 = 0 then [] else [32]) ++ ownT w, s.2 + 1)
def txt (ws : List (List UInt8)) : List UInt8 := (ws.foldl txtF ([], 0)).1
theorem txt_count : ∀ (ws : List (List UInt8)) (s : List UInt8 × Nat), (ws.foldl txtF s).2 = s.2 + ws.length
  | [], s => rfl
  | w :: r, s => by
    rw [List.foldl_cons, txt_count r]
    simp [txtF]; omega
theorem txt_snoc (ws : List (List UInt8)) (w : List UInt8) : txt (ws ++ [w]) = txt ws ++ (if ws.length = 0 then [] else [32]) ++ ownT w := by
  unfold txt
  rw [List.foldl_append, List.foldl_cons, List.foldl_nil]
  have := txt_count ws ([], 0)
  unfold txtF at this ⊢
  simp only [this, Nat.zero_add]
theorem txt_take {ws : List (List UInt8)} {i : Nat} {w : List UInt8} (h : ws[i]? = some w) : txt (ws.take (i + 1)) = txt (ws.take i) ++ (if i = 0 then [] else [32]) ++ ownT w := by
  obtain ⟨hi, e⟩ := List.getElem?_eq_some_iff.1 h
  rw [List.take_succ_eq_append_getElem hi, e, txt_snoc, List.length_take, Nat.min_eq_left (by omega)]
theorem txt_le : ∀ (i : Nat) (ws : List (List UInt8)), (∀ w ∈ ws, w.length = 32) → i ≤ ws.length → (txt (ws.take i)).length ≤ 76 * i
  | 0, ws, _, _ => by simp [txt]
  | i + 1, ws, h, hi => by
    have ih := txt_le i ws h (by omega)
    obtain ⟨w, hw⟩ : ∃ w, ws[i]? = some w := ⟨ws[i], List.getElem?_eq_getElem (by omega)⟩
    have hl := ownT_len w
    have h32 := h w (List.mem_of_getElem? hw)
    rw [txt_take hw]
    simp only [List.length_append]
    split <;> simp only [List.length_nil, List.length_cons] <;> omega
theorem velemsP (H : Heap) : velems 1 (.sc (.string ⟨#[115, 104, 97, 50, 53, 54, 45]⟩)) H = some (7, preB.map bV) := rfl
theorem text_call (ws : List (List UInt8)) (hws : ∀ w ∈ ws, w.length = 32) (hn : ws.length ≤ 1000) (H : Heap) : VCall Tryd.prog 20 [wantV ws] H (fun v K => v = roB (txt ws) ∧ K = H) := by
  refine VCall.frozen (Q := fun v K => Frz K v (roB (txt ws))) (by simp [nameless_wantV]) ?_ (fun v K h => h)
  refine VCall.go Tryd.func20 rfl ?_
  repeat' (first | with_reducible refine And.intro ?_ ?_ | ((with_reducible intro hc); (try simp only [zA, zB, zC, zD, zE, zF, zG, zH, zI, zJ, zK, zL, zM, zN, zO, zP, zQ, zR, zS, zT, zU, zV, zW] at hc); (first | (exact absurd rfl hc) | (exact absurd trivial hc) | (exfalso; omega) | skip)) | ((conv => whnf); first | with_reducible refine And.intro ?_ ?_ | refine ifB_intro ?_ ?_ | refine xA (by omega) ?_ | ((refine xB ?_); intro kw hk1 hk2) | refine xC (by omega) ?_ | refine xD ?_ | refine xE (by omega) ?_ | refine xF (by omega) ?_ | refine xG ?_ | refine xH ?_ | refine xI (by omega) ?_ | refine xJ (by omega) ?_ | (with_reducible refine stopA ?_) | refine Exists.intro _ (And.intro (by rfl) ?_) | refine GOp.via (by rfl) ?_ | (with_reducible first | refine stopO ?_ | refine stopE ?_ | refine stopD ?_ | refine stopW ?_ | refine stopG ?_ | refine stopC ?_ | refine stopR ?_)))
  (refine GWP'.mk (GWP.loopB [] (fun (i : Nat) => i ≤ ws.length) (fun i => [(9, iV i), (3, .gs 1 (txt (ws.take i)).length 1)]) (fun i => [(1, .opt ((txt (ws.take i)).map bV))]) 2 (fun i => ws.length - i) 0 (Nat.zero_le _) ?_); (conv => whnf); refine And.intro ?_ ?_)
  · focus (refine KeptA.of [] rfl rfl (by repeat' (first | exact trivial | refine And.intro rfl ?_)) rfl ?_ ?_; all_goals (repeat' (first | exact trivial | (refine And.intro ?_ ?_) | (refine Exists.intro _ (And.intro rfl ?_)) | (refine RenO.opt ?_) | (refine RenO.toOpt ?_) | (refine RenO.cells ?_) | exact RenO.defs | exact RenL.nil | (refine RenL.cons ?_ ?_) | (first | exact RenL.of (nameless_map nameless_bV _) | (with_reducible exact RenV.sc) | exact RenV.gsN | exact RenV.gsZ | exact RenV.gsL (by decide) | exact RenV.slL (by decide) | ((first | refine RenV.gsE (by (first | exact List.Mem.head _ | exact List.Mem.tail _ (List.Mem.head _) | exact List.Mem.tail _ (List.Mem.tail _ (List.Mem.head _)) | (simp; done))) ?_ | refine RenV.eq (scI_eq ?_) (nameless_sc _)); (first | rfl | omega | (simp only [List.length_append, List.length_cons, List.length_nil, List.length_map, List.length_take, List.length_drop] <;> omega) | (simp only <;> omega) | (simp <;> omega))) | exact RenV.undef) | (with_unfolding_all exact (rfl : (_ : VObj) = _)))))
  rintro i hi
  simp only at hi ⊢
  by_cases hil : i < ws.length
  · obtain ⟨w, hw⟩ : ∃ w, ws[i]? = some w := ⟨ws[i], List.getElem?_eq_getElem hil⟩
    have hwl := hws w (List.mem_of_getElem? hw)
    have hwb := one_map w
    have hw32 : (w.map bV).length = 32 := by rw [List.length_map, hwl]
    have hb64 := b64_len w
    have htk := txt_take hw
    have htl := txt_le i ws hws hi
    generalize txt (ws.take i) = tx at *
    have hwS := fun (H : Heap) c hg => writeS_call (H := H) (b := 2) (n := 32) (c := c) (vs := w.map bV) w (by omega) hg rfl hwl.symm
    have htm : (tx.map bV).length = tx.length * 1 := by simp
    repeat' (first | with_reducible refine And.intro ?_ ?_ | ((with_reducible intro hc); (try simp only [zA, zB, zC, zD, zE, zF, zG, zH, zI, zJ, zK, zL, zM, zN, zO, zP, zQ, zR, zS, zT, zU, zV, zW] at hc); (first | (exact absurd rfl hc) | (exact absurd trivial hc) | (exfalso; omega) | skip)) | ((conv => whnf); first | with_reducible refine And.intro ?_ ?_ | refine ifB_intro ?_ ?_ | refine xA (by omega) ?_ | ((refine xB ?_); intro kw hk1 hk2) | refine xC (by omega) ?_ | refine xD ?_ | refine xE (by omega) ?_ | refine xF (by omega) ?_ | refine xG ?_ | refine xH ?_ | refine xI (by omega) ?_ | refine xJ (by omega) ?_ | (with_reducible refine stopA ?_) | refine Exists.intro _ (And.intro (by (first | exact vat_rowsB hws hw rfl | exact vat_of rfl rfl rfl | rfl)) ?_) | (refine GOp.stA (vs := w.map bV) (by rfl) (by rfl) (by rfl) (by rfl) (by rfl) hw32 hwb ?_) | refine GOp.via (by rfl) ?_ | (with_reducible first | refine stopO ?_ | refine stopE ?_ | refine stopD ?_ | refine stopW ?_ | refine stopG ?_) | fail | (with_reducible refine stopC ?_) | (with_reducible refine stopR ?_)))
    all_goals (first | omega | skip)
    · rw [if_neg (by omega)] at htk
      refine GOp'.growX (tx.length + 1) ((tx ++ [32]).map bV) rfl sty_b (d := .slice 5) Tryd.underlying22 (by intro k h; cases h) rfl (m := 1) (l := [bV 32]) (by rfl) (by rfl) rfl htm (by omega) (by omega) (by simp) rfl ?_
      have htm2 : ((tx ++ [32]).map bV).length = (tx.length + 1) * 1 := by simp
      repeat' (first | with_reducible refine And.intro ?_ ?_ | ((with_reducible intro hc); (try simp only [zA, zB, zC, zD, zE, zF, zG, zH, zI, zJ, zK, zL, zM, zN, zO, zP, zQ, zR, zS, zT, zU, zV, zW] at hc); (first | (exact absurd rfl hc) | (exact absurd trivial hc) | (exfalso; omega) | skip)) | exact Is.mk rfl rfl | ((conv => whnf); first | with_reducible refine And.intro ?_ ?_ | with_reducible intro hx | exact Is.mk rfl rfl | (with_reducible first | apply Val.via | apply ValH.via) | refine ifB_intro ?_ ?_ | refine xA (by omega) ?_ | ((refine xB ?_); intro kw hk1 hk2) | refine xC (by omega) ?_ | refine xD ?_ | refine xE (by omega) ?_ | refine xF (by omega) ?_ | refine xG ?_ | refine xH ?_ | refine xI (by omega) ?_ | refine xJ (by omega) ?_ | (with_reducible refine stopA ?_) | refine Exists.intro _ (And.intro (by rfl) ?_) | refine GOp.drawn (by rfl) (by rfl) (Nat.le_of_ble_eq_true (by rfl)) (by rfl) | refine GOp.via (by rfl) ?_ | fail | (with_reducible first | refine stopO ?_ | refine stopE ?_ | refine stopD ?_ | refine stopW ?_ | refine stopG ?_ | refine stopC ?_ | refine stopR ?_)))
      all_goals (first | omega | skip)
      (refine GWP'.mk (GWP.drawF mixed 1 4 26 (.gs 5 ((tx.length + 1) + 7) 1) (fun H => (H.del 4).add (.opt ((tx ++ [32]).map bV ++ preB.map bV))) (by kernel_rfl) (by rfl) ?_); repeat' (first | with_reducible refine And.intro ?_ ?_ | ((with_reducible intro hc); (try simp only [zA, zB, zC, zD, zE, zF, zG, zH, zI, zJ, zK, zL, zM, zN, zO, zP, zQ, zR, zS, zT, zU, zV, zW] at hc); (first | (exact absurd rfl hc) | (exact absurd trivial hc) | (exfalso; omega) | skip)) | exact Is.mk rfl rfl | ((conv => whnf); first | with_reducible refine And.intro ?_ ?_ | with_reducible intro hx | exact Is.mk rfl rfl | (with_reducible first | apply Val.via | apply ValH.via) | refine ifB_intro ?_ ?_ | refine xA (by omega) ?_ | ((refine xB ?_); intro kw hk1 hk2) | refine xC (by omega) ?_ | refine xD ?_ | refine xE (by omega) ?_ | refine xF (by omega) ?_ | refine xG ?_ | refine xH ?_ | refine xI (by omega) ?_ | refine xJ (by omega) ?_ | (with_reducible refine stopA ?_) | refine Exists.intro _ (And.intro (by (first | exact vat_of rfl rfl rfl | rfl)) ?_) | refine GOp.drawn (by rfl) (by rfl) (Nat.le_of_ble_eq_true (by rfl)) (by rfl) | refine GOp.via (by rfl) ?_ | refine GWP.drawY mixed _ (by kernel_rfl) (by rfl) ?_ | (first | (refine GCall.mk ((hwS _ _ rfl).mono ?_); rintro _ _ ⟨rfl, rfl⟩) | (refine stopO (GOp'.grow rfl sty_b (d := .string) Tryd.underlying9 (by intro k h; cases h) rfl (velemsP _) (by rfl) rfl (vs := (tx ++ [32]).map bV) htm2 (by omega) (by omega) ?_)) | (refine stopO (GOp'.growX (tx ++ [32] ++ ownT w).length ((tx ++ [32] ++ ownT w).map bV) rfl sty_b (d := .slice 5) Tryd.underlying22 (by intro k h; cases h) rfl (velems_roB (b64 w) _) (one_map _) rfl (by simp [preB]) (by omega) (by omega) (by simp [ownT]) (by simp [ownT, preB]; omega) ?_))) | (with_reducible first | refine stopO ?_ | refine stopE ?_ | refine stopD ?_ | refine stopW ?_ | refine stopG ?_ | refine stopC ?_ | refine stopR ?_))))
      all_goals (first | omega | skip)
      focus (refine Done'.mk ⟨(i + 1), (by omega), ?_, KeptA.of [(6, 1)] rfl rfl (by repeat' (first | exact trivial | refine And.intro rfl ?_)) rfl ?_ ?_⟩; (first | omega | (simp only; omega)); all_goals (repeat' (first | exact trivial | (refine And.intro ?_ ?_) | (refine Exists.intro _ (And.intro rfl ?_)) | (refine RenO.opt ?_) | (refine RenO.toOpt ?_) | (refine RenO.cells ?_) | exact RenO.defs | exact RenL.nil | (refine RenL.cons ?_ ?_) | (first | (first | exact RenL.eq (by rw [htk]) (nameless_map nameless_bV _) | exact RenV.gsE (List.Mem.head _) (by rw [htk])) | (with_reducible exact RenV.sc) | exact RenV.gsN | exact RenV.gsZ | exact RenV.gsL (by decide) | exact RenV.slL (by decide) | ((first | refine RenV.gsE (by (first | exact List.Mem.head _ | exact List.Mem.tail _ (List.Mem.head _) | exact List.Mem.tail _ (List.Mem.tail _ (List.Mem.head _)) | (simp; done))) ?_ | refine RenV.eq (scI_eq ?_) (nameless_sc _)); (first | rfl | omega | (simp only [List.length_append, List.length_cons, List.length_nil, List.length_map, List.length_take, List.length_drop] <;> omega) | (simp only <;> omega) | (simp <;> omega))) | exact RenV.undef) | (with_unfolding_all exact (rfl : (_ : VObj) = _)))))
    · obtain rfl : i = 0 := by omega
      rw [if_pos rfl, List.append_nil] at htk
      (refine GWP'.mk (GWP.drawF mixed 1 4 26 (.gs 3 (tx.length + 7) 1) (fun H => (H.del 1).add (.opt ((tx).map bV ++ preB.map bV))) (by kernel_rfl) (by rfl) ?_); repeat' (first | with_reducible refine And.intro ?_ ?_ | ((with_reducible intro hc); (try simp only [zA, zB, zC, zD, zE, zF, zG, zH, zI, zJ, zK, zL, zM, zN, zO, zP, zQ, zR, zS, zT, zU, zV, zW] at hc); (first | (exact absurd rfl hc) | (exact absurd trivial hc) | (exfalso; omega) | skip)) | exact Is.mk rfl rfl | ((conv => whnf); first | with_reducible refine And.intro ?_ ?_ | with_reducible intro hx | exact Is.mk rfl rfl | (with_reducible first | apply Val.via | apply ValH.via) | refine ifB_intro ?_ ?_ | refine xA (by omega) ?_ | ((refine xB ?_); intro kw hk1 hk2) | refine xC (by omega) ?_ | refine xD ?_ | refine xE (by omega) ?_ | refine xF (by omega) ?_ | refine xG ?_ | refine xH ?_ | refine xI (by omega) ?_ | refine xJ (by omega) ?_ | (with_reducible refine stopA ?_) | refine Exists.intro _ (And.intro (by (first | exact vat_of rfl rfl rfl | rfl)) ?_) | refine GOp.drawn (by rfl) (by rfl) (Nat.le_of_ble_eq_true (by rfl)) (by rfl) | refine GOp.via (by rfl) ?_ | refine GWP.drawY mixed _ (by kernel_rfl) (by rfl) ?_ | (first | (refine GCall.mk ((hwS _ _ rfl).mono ?_); rintro _ _ ⟨rfl, rfl⟩) | (refine stopO (GOp'.grow rfl sty_b (d := .string) Tryd.underlying9 (by intro k h; cases h) rfl (velemsP _) (by rfl) rfl (vs := (tx).map bV) htm (by omega) (by omega) ?_)) | (refine stopO (GOp'.growX (tx ++ ownT w).length ((tx ++ ownT w).map bV) rfl sty_b (d := .slice 5) Tryd.underlying22 (by intro k h; cases h) rfl (velems_roB (b64 w) _) (one_map _) rfl (by simp [preB]) (by omega) (by omega) (by simp [ownT]) (by simp [ownT, preB]; omega) ?_))) | (with_reducible first | refine stopO ?_ | refine stopE ?_ | refine stopD ?_ | refine stopW ?_ | refine stopG ?_ | refine stopC ?_ | refine stopR ?_))))
      all_goals (first | omega | skip)
      focus (refine Done'.mk ⟨(0 + 1), (by omega), ?_, KeptA.of [(4, 1)] rfl rfl (by repeat' (first | exact trivial | refine And.intro rfl ?_)) rfl ?_ ?_⟩; (first | omega | (simp only; omega)); all_goals (repeat' (first | exact trivial | (refine And.intro ?_ ?_) | (refine Exists.intro _ (And.intro rfl ?_)) | (refine RenO.opt ?_) | (refine RenO.toOpt ?_) | (refine RenO.cells ?_) | exact RenO.defs | exact RenL.nil | (refine RenL.cons ?_ ?_) | (first | (first | exact RenL.eq (by rw [htk]) (nameless_map nameless_bV _) | exact RenV.gsE (List.Mem.head _) (by rw [htk])) | (with_reducible exact RenV.sc) | exact RenV.gsN | exact RenV.gsZ | exact RenV.gsL (by decide) | exact RenV.slL (by decide) | ((first | refine RenV.gsE (by (first | exact List.Mem.head _ | exact List.Mem.tail _ (List.Mem.head _) | exact List.Mem.tail _ (List.Mem.tail _ (List.Mem.head _)) | (simp; done))) ?_ | refine RenV.eq (scI_eq ?_) (nameless_sc _)); (first | rfl | omega | (simp only [List.length_append, List.length_cons, List.length_nil, List.length_map, List.length_take, List.length_drop] <;> omega) | (simp only <;> omega) | (simp <;> omega))) | exact RenV.undef) | (with_unfolding_all exact (rfl : (_ : VObj) = _)))))
  · obtain rfl : i = ws.length := by omega
    rw [List.take_length]
    repeat' (first | with_reducible refine And.intro ?_ ?_ | ((with_reducible intro hc); (try simp only [zA, zB, zC, zD, zE, zF, zG, zH, zI, zJ, zK, zL, zM, zN, zO, zP, zQ, zR, zS, zT, zU, zV, zW] at hc); (first | (exact absurd rfl hc) | (exact absurd trivial hc) | (exfalso; omega) | skip)) | exact Is.mk rfl rfl | ((conv => whnf); first | with_reducible refine And.intro ?_ ?_ | with_reducible intro hx | exact Is.mk rfl rfl | (with_reducible first | apply Val.via | apply ValH.via) | refine ifB_intro ?_ ?_ | refine xA (by omega) ?_ | ((refine xB ?_); intro kw hk1 hk2) | refine xC (by omega) ?_ | refine xD ?_ | refine xE (by omega) ?_ | refine xF (by omega) ?_ | refine xG ?_ | refine xH ?_ | refine xI (by omega) ?_ | refine xJ (by omega) ?_ | (with_reducible refine stopA ?_) | refine Exists.intro _ (And.intro (by (first | exact vat_of rfl rfl rfl | rfl)) ?_) | refine GOp.drawn (by rfl) (by rfl) (Nat.le_of_ble_eq_true (by rfl)) (by rfl) | refine GOp.via (by rfl) ?_ | refine GWP.drawY mixed _ (by kernel_rfl) (by rfl) ?_ | fail | (with_reducible first | refine stopO ?_ | refine stopE ?_ | refine stopD ?_ | refine stopW ?_ | refine stopG ?_ | refine stopC ?_ | refine stopR ?_)))
    all_goals (first | omega | skip)
    exact Done'.mk (frz_gsB rfl)
end Go.Proofs.YtmmjgbdihgdekaaDoor

/- What the words of a want want. -/
namespace Go.Proofs.YtmmjgbdihgdekaaDoor
open Go Go.RowKit
set_option linter.unusedSimpArgs false
set_option linter.unusedVariables false
theorem b64_n : ∀ l : List UInt8, (b64 l).length = 4 * ((l.length + 2) / 3)
  | a :: b :: c :: r => by
    have e : b64 (a :: b :: c :: r) = sgn (a.toNat / 4) :: sgn (a.toNat % 4 * 16 + b.toNat / 16) :: sgn (b.toNat % 16 * 4 + c.toNat / 64) :: sgn (c.toNat % 64) :: b64 r := by cases r <;> rfl
    have := b64_n r
    rw [e]
    simp only [List.length_cons]
    omega
  | [a, b] => by simp [b64]
  | [a] => by simp [b64]
  | [] => by simp [b64]
theorem ownT_51 {w : List UInt8} (h : w.length = 32) : (ownT w).length = 51 := by
  have := b64_n w
  unfold ownT preB
  rw [List.length_append, this, h]
  rfl
theorem want1_some {x w : List UInt8} (h : want1 x = some w) : w.length = 32 ∧ x = ownT w := by
  unfold want1 at h
  split at h
  · rename_i hp
    obtain ⟨r, hr⟩ := List.isPrefixOf_iff_prefix.1 hp
    split at h
    · rename_i b hb
      split at h
      · rename_i h32
        injection h with h
        subst h
        refine ⟨h32, ?_⟩
        have h2 := (readP_iff _ _).1 hb
        have h3 : x.drop 7 = r := by rw [← hr]; rfl
        unfold ownT
        rw [h2, h3, hr]
      · cases h
    · cases h
  · cases h
theorem wants_32 (l : List UInt8) : ∀ w ∈ wants l, w.length = 32 := fun w hw => by
  obtain ⟨x, _, h⟩ := List.mem_filterMap.1 hw
  exact (want1_some h).1
theorem fieldsGo_sum : ∀ (r cur : List UInt8), ((fieldsGo r cur).map (fun x => x.length + 1)).sum ≤ cur.length + r.length + 1
  | [], cur => by unfold fieldsGo; split <;> simp
  | b :: r, cur => by
    have ih := fieldsGo_sum r
    unfold fieldsGo
    split
    · split
      · have := ih []; simp only [List.length_nil, List.length_cons] at this ⊢; omega
      · have := ih []; simp only [List.map_cons, List.sum_cons, List.length_nil, List.length_cons] at this ⊢; omega
    · have := ih (cur ++ [b]); simp only [List.length_append, List.length_nil, List.length_cons] at this ⊢; omega
theorem filter_sum : ∀ fs : List (List UInt8), 52 * (fs.filterMap want1).length ≤ (fs.map (fun x => x.length + 1)).sum
  | [] => by simp
  | x :: r => by
    have ih := filter_sum r
    rw [List.filterMap_cons]
    cases h : want1 x with
    | none => simp only [List.map_cons, List.sum_cons]; omega
    | some w =>
      obtain ⟨h1, h2⟩ := want1_some h
      have := ownT_51 h1
      subst h2
      simp only [List.map_cons, List.sum_cons, List.length_cons]; omega
theorem wants_many (l : List UInt8) : 52 * (wants l).length ≤ l.length + 1 := by
  have h1 := filter_sum (fieldsB l)
  have h2 := fieldsGo_sum l []
  unfold wants
  unfold fieldsB at *
  simp only [List.length_nil] at h2
  omega
theorem txt_52 : ∀ (i : Nat) (ws : List (List UInt8)), (∀ w ∈ ws, w.length = 32) → i ≤ ws.length → (txt (ws.take i)).length ≤ 52 * i
  | 0, ws, _, _ => by simp [txt]
  | i + 1, ws, h, hi => by
    have ih := txt_52 i ws h (by omega)
    obtain ⟨w, hw⟩ : ∃ w, ws[i]? = some w := ⟨ws[i], List.getElem?_eq_getElem (by omega)⟩
    have hl := ownT_51 (h w (List.mem_of_getElem? hw))
    rw [txt_take hw]
    simp only [List.length_append]
    split <;> simp only [List.length_nil, List.length_cons] <;> omega
theorem fieldsGo_cut {r : List UInt8} : ∀ (a cur : List UInt8), fieldsGo (a ++ 32 :: r) cur = fieldsGo a cur ++ fieldsGo r []
  | [], cur => by
    have e : fieldsGo (32 :: r) cur = if cur.length = 0 then fieldsGo r [] else cur :: fieldsGo r [] := by rw [fieldsGo]; exact if_pos rfl
    have e2 : fieldsGo [] cur = if cur.length = 0 then [] else [cur] := by rw [fieldsGo]
    rw [List.nil_append, e, e2]
    split <;> simp
  | c :: a, cur => by
    have ih := fieldsGo_cut (r := r) a
    rw [List.cons_append, fieldsGo, fieldsGo]
    split
    · split
      · exact ih []
      · rw [ih [], List.cons_append]
    · exact ih _
theorem fields_own (w : List UInt8) : fieldsGo (ownT w) [] = [ownT w] := by
  have e := fieldsGo_run (r := []) (ownT w) [] (ownT_blank w)
  rw [List.append_nil, List.nil_append] at e
  rw [e, fieldsGo, if_neg (ownT_pos w)]
theorem fields_txt : ∀ (i : Nat) (ws : List (List UInt8)), i ≤ ws.length → fieldsGo (txt (ws.take i)) [] = (ws.take i).map ownT
  | 0, ws, _ => by simp [txt, fieldsGo]
  | i + 1, ws, hi => by
    have ih := fields_txt i ws (by omega)
    obtain ⟨w, hw⟩ : ∃ w, ws[i]? = some w := ⟨ws[i], List.getElem?_eq_getElem (by omega)⟩
    obtain ⟨hi2, e⟩ := List.getElem?_eq_some_iff.1 hw
    rw [txt_take hw, List.take_succ_eq_append_getElem hi2, e, List.map_append]
    by_cases h0 : i = 0
    · subst h0
      rw [if_pos rfl]
      simp only [List.take_zero, List.map_nil, List.nil_append, List.append_nil]
      rw [show txt [] = [] from rfl, List.nil_append, fields_own]
      rfl
    · rw [if_neg h0, List.append_assoc, List.singleton_append, fieldsGo_cut, ih, fields_own]
      rfl
theorem filter_own : ∀ ws : List (List UInt8), (∀ w ∈ ws, w.length = 32) → (ws.map ownT).filterMap want1 = ws
  | [], _ => rfl
  | w :: r, h => by
    rw [List.map_cons, List.filterMap_cons, want1_own (h w (by simp)), filter_own r (fun x hx => h x (by simp [hx]))]
theorem wants_txt {ws : List (List UInt8)} (h : ∀ w ∈ ws, w.length = 32) : wants (txt ws) = ws := by
  have := fields_txt ws.length ws (Nat.le_refl _)
  rw [List.take_length] at this
  unfold wants fieldsB
  rw [this, filter_own ws h]
end Go.Proofs.YtmmjgbdihgdekaaDoor

