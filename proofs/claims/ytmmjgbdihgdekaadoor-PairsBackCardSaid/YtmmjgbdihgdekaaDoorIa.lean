import Derived.Test.YtmmjgbdihgdekaaDoorI9
import Derived.Test.YtmmjgbdihgdekaaDoorH3
import Derived.Test.YtmmjgbdihgdekaaDoorI6
import Derived.Deep.SlicePairs
/- A pair more, walked. -/
namespace Go.Proofs.YtmmjgbdihgdekaaDoor
open Go Go.RowKit
set_option linter.unusedSimpArgs false
set_option linter.unusedVariables false
set_option maxRecDepth 100000
set_option maxHeartbeats 16000000
theorem one_rowsP (l : List PF) : (rowsP l).all VV.one = true := by
  refine List.all_eq_true.2 fun v hv => ?_
  obtain ⟨f, _, h⟩ := List.mem_flatMap.1 hv
  simp only [List.mem_cons, List.not_mem_nil, or_false] at h
  rcases h with rfl | rfl <;> rfl
theorem velems_P (l : List PF) (H : Heap) : velems 2 (.ro l.length (rowsP l)) H = some (l.length, rowsP l) := by
  simp [velems, rowsP_len]
theorem clonePs_call (l : List PF) (hl : l.length ≤ 100000) (H : Heap) : VCall Tryd.prog 69 [.ro l.length (rowsP l)] H (fun v K => v = .gs H.next l.length 2 ∧ K = ⟨(H.next, .opt (rowsP l)) :: H.objs, H.next + 1⟩) := by
  refine VCall.newG (by simp [show Nameless (.ro l.length (rowsP l)) from nameless_ro (rowsP_nameless l)]) (rowsP_nameless l) ?_ H
  by_cases h0 : l.length = 0
  · obtain rfl := List.eq_nil_of_length_eq_zero h0
    refine VCall.outR (Q := fun v K => (v = .sc (.slice none 0 0) ∨ ∃ c, v = .sl c 0 0 (some 0) 2)) ?_ ?_
    · refine VCall.go Tryd.func69 rfl ?_
      repeat' (first | with_reducible refine And.intro ?_ ?_ | ((with_reducible intro hc); (try simp only [zA, zB, zC, zD, zE, zF, zG, zH, zI, zJ, zK, zL, zM, zN, zO, zP, zQ, zR, zS, zT, zU, zV, zW] at hc); (first | (exact absurd rfl hc) | (exact absurd trivial hc) | (exfalso; omega) | skip)) | ((conv => whnf); first | with_reducible refine And.intro ?_ ?_ | refine ifB_intro ?_ ?_ | refine xA (by omega) ?_ | ((refine xB ?_); intro kw hk1 hk2) | refine xC (by omega) ?_ | refine xD ?_ | refine xE (by omega) ?_ | refine xF (by omega) ?_ | refine xG ?_ | refine xH ?_ | refine xI (by omega) ?_ | refine xJ (by omega) ?_ | (with_reducible refine stopA ?_) | refine Exists.intro _ (And.intro (by rfl) ?_) | refine GOp.via (by rfl) ?_ | (with_reducible first | refine stopO ?_ | refine stopE ?_ | refine stopD ?_ | refine stopW ?_ | refine stopG ?_ | refine stopC ?_ | refine stopR ?_)))
      · exact Done'.mk (.inl rfl)
      · exact Done'.mk (.inr ⟨_, rfl⟩)
    · rintro v K hv
      refine ⟨.gs 0 0 2, [(0, .opt [])], 1, [], rfl, ?_, ⟨rfl, trivial⟩, rfl, rfl⟩
      rcases hv with rfl | ⟨c, rfl⟩
      · exact .gsN
      · exact .gsZ
  · refine VCall.outR (Q := fun v K => v = .sl 1 0 l.length none 2 ∧ K.get 1 = some (.cells true (rowsP l))) ?_ ?_
    · refine VCall.go Tryd.func69 rfl ?_
      repeat' (first | with_reducible refine And.intro ?_ ?_ | ((with_reducible intro hc); (try simp only [zA, zB, zC, zD, zE, zF, zG, zH, zI, zJ, zK, zL, zM, zN, zO, zP, zQ, zR, zS, zT, zU, zV, zW] at hc); (first | (exact absurd rfl hc) | (exact absurd trivial hc) | (exfalso; omega) | skip)) | ((conv => whnf); first | with_reducible refine And.intro ?_ ?_ | refine ifB_intro ?_ ?_ | refine xA (by omega) ?_ | ((refine xB ?_); intro kw hk1 hk2) | refine xC (by omega) ?_ | refine xD ?_ | refine xE (by omega) ?_ | refine xF (by omega) ?_ | refine xG ?_ | refine xH ?_ | refine xI (by omega) ?_ | refine xJ (by omega) ?_ | (with_reducible refine stopA ?_) | refine Exists.intro _ (And.intro (by rfl) ?_) | refine GOp.via (by rfl) ?_ | (with_reducible first | refine stopO ?_ | refine stopE ?_ | refine stopD ?_ | refine stopW ?_ | refine stopG ?_ | refine stopC ?_ | refine stopR ?_)))
      refine GOp'.via ((vapp_full sty_P (d := .slice 120) Tryd.underlying41 (by intro k h; cases h) (b := 0) (o := 0) (n := 0) (c := 0) (z' := 2) (vs := []) (rw := true) (velems_P l _) (one_rowsP l) rfl (by omega) (by omega) (by simp) (by omega) (by omega)).trans (by rw [Nat.zero_add])) ?_
      repeat' (first | with_reducible refine And.intro ?_ ?_ | ((with_reducible intro hc); (try simp only [zA, zB, zC, zD, zE, zF, zG, zH, zI, zJ, zK, zL, zM, zN, zO, zP, zQ, zR, zS, zT, zU, zV, zW] at hc); (first | (exact absurd rfl hc) | (exact absurd trivial hc) | (exfalso; omega) | skip)) | ((conv => whnf); first | with_reducible refine And.intro ?_ ?_ | refine ifB_intro ?_ ?_ | refine xA (by omega) ?_ | ((refine xB ?_); intro kw hk1 hk2) | refine xC (by omega) ?_ | refine xD ?_ | refine xE (by omega) ?_ | refine xF (by omega) ?_ | refine xG ?_ | refine xH ?_ | refine xI (by omega) ?_ | refine xJ (by omega) ?_ | (with_reducible refine stopA ?_) | refine Exists.intro _ (And.intro (by rfl) ?_) | refine GOp.via (by rfl) ?_ | (with_reducible first | refine stopO ?_ | refine stopE ?_ | refine stopD ?_ | refine stopW ?_ | refine stopG ?_ | refine stopC ?_ | refine stopR ?_)))
      exact Done'.mk ⟨rfl, rfl⟩
    · rintro v K ⟨rfl, h1⟩
      refine ⟨.gs 0 l.length 2, [(0, .opt (rowsP l))], 1, [(1, 0)], rfl, .gsS (List.Mem.head _) rfl h0, ⟨⟨_, h1, .toOpt (.of (rowsP_nameless l))⟩, trivial⟩, rfl, rfl⟩
theorem exact_bVs (x : List UInt8) : ∀ v ∈ x.map bV, Exact v := fun v hv => by
  obtain ⟨b, _, rfl⟩ := List.mem_map.1 hv
  exact exact_sc _
theorem cloneV_call {H : Heap} {b n : Nat} {c : Option Nat} (x : List UInt8) (hm : x.length ≤ 140737488355328) (hg : H.get b = some (.cells true (x.map bV))) (hn : n = x.length) : VCall Tryd.prog 70 [.sl b 0 n c 1] H (fun v K => v = roB x ∧ K = H) := by
  refine VCall.viewed (args' := [roB x]) (Q := fun v K => Frx K v (roB x)) (.cons (view_row hg hn) .nil) ?_ (fun v K h => h)
  by_cases hx : x.length = 0
  · obtain rfl := List.eq_nil_of_length_eq_zero hx
    refine (clone_own0 [] 0).mono ?_
    rintro v K ⟨rfl, rfl⟩
    exact Frx.ro0
  · refine (clone_own hx hm [] 0).mono ?_
    rintro v K ⟨rfl, rfl⟩
    have := Frx.sl (K := ⟨[(1, .cells true (x.map bV))], 2⟩) (b := 1) (o := 0) (n := x.length) (z := 1) (c := none) rfl (by simp) (exact_bVs x)
    rw [List.drop_zero, Nat.mul_one, List.take_of_length_le (by simp)] at this
    exact this
theorem GOp.drawnP {o : Oper} {ts : List VV} {H : Heap} {i : Nat} {a b : List UInt8} (ho : o.op = .buildSlice 41 1 #[(0, .tmp i)]) (hx : ts[i]? = some (.ag [strV a, roB b])) (ha : (ts.set i .junk).all scB = true) :
    GOp Tryd.prog o ts H (fun x K' => Is x (.ro 1 [strV a, roB b]) K' H) := ⟨by
  have hn2 : ∀ v ∈ [strV a, roB b], Nameless v := by simp [nameless_roB, nameless_strV]
  have hv : vop Tryd.prog o ts ⟨[], 0⟩ = some (.sl 0 0 1 (some 1) 2, ⟨[(0, .cells true [strV a, roB b])], 1⟩) := by
    have hz : vsize Tryd.prog 120 = some 2 := by kernel_rfl
    have hl : vzero Tryd.prog 120 = some [.sc (.string ⟨#[]⟩), .sc (.slice none 0 0)] := by kernel_rfl
    have he : veval ts (.tmp i) = .ag [strV a, roB b] := by simp only [veval, hx, Option.getD_some]
    have h1 : cellsOf (.ag [strV a, roB b]) = some [strV a, roB b] := rfl
    simp only [vop, ho, vbuildSlice, Tryd.underlying41, hz, hl, List.map_cons, List.map_nil, he, vfill, h1]
    rfl
  have hn : ∀ v ∈ ts, Nameless v := fun v hv => by
    obtain ⟨j, hj, e⟩ := List.mem_iff_getElem.1 hv
    by_cases hji : j = i
    · subst hji
      rw [List.getElem?_eq_getElem hj, e] at hx
      injection hx with hx
      subst hx
      exact nameless_ag hn2
    · refine scB_nameless (List.all_eq_true.1 ha v ?_)
      refine List.mem_iff_getElem.2 ⟨j, by simpa using hj, ?_⟩
      rw [List.getElem_set_ne (fun h => hji h.symm)]
      exact e
  refine (VOne.frozen (u := .ro 1 [strV a, roB b]) hn hv ?_).mono fun x K' e => ⟨e.1, e.2⟩
  exact Frz.sl (K := ⟨[(0, .cells true [strV a, roB b])], 1⟩) (b := 0) (o := 0) (n := 1) (z := 2) (c := some 1) rfl (by simp) hn2⟩
/-- What Add hands back. -/
def addV (acc : List PF) (f : PF) : VV := if 64 ≤ acc.length then .tp [formV [], iV 3] else .tp [formV (acc ++ [f]), iV 0]
theorem nameless_addV (acc : List PF) (f : PF) : Nameless (addV acc f) := by
  unfold addV
  split <;> exact nameless_tp (by simp [nameless_formV, iV, nameless_sc])
theorem add0_call (acc : List PF) (nm x : List UInt8) (ha : acc.length ≤ 10000) (hx : x.length ≤ 10000) (hnm : nm.length ≤ 10000) : VCall Tryd.prog 22 [formV acc, roB nm, .sl 0 0 x.length none 1] ⟨[(0, .cells true (x.map bV))], 1⟩ (fun v K => v = addV acc (nm, x) ∧ K = ⟨[(0, .cells true (x.map bV))], 1⟩) := by
  refine VCall.trimB (Q' := fun v => v = addV acc (nm, x)) (Q := fun v K => K.get 0 = some (.cells true (x.map bV)) ∧ Frz ⟨restO [0] K.objs, K.next⟩ v (addV acc (nm, x))) ?_ ?_ ?_
  · intro b y hy
    rw [hget_cons] at hy
    split at hy
    · injection hy with hy
      exact ⟨_, .inl hy.symm, nameless_map nameless_bV x⟩
    · simp [hget] at hy
  rotate_left
  · rintro v K ⟨h1, h2⟩
    refine ⟨fun b z hz => ?_, _, rfl, h2.toB⟩
    rw [hget_cons] at hz
    split at hz
    · rename_i e; subst e; rw [← hz]; exact h1
    · simp [hget] at hz
  · refine VCall.go Tryd.func22 rfl ?_
    unfold addV
    by_cases h64 : 64 ≤ acc.length
    · rw [if_pos h64]
      repeat' (first | with_reducible refine And.intro ?_ ?_ | ((with_reducible intro hc); (try simp only [zA, zB, zC, zD, zE, zF, zG, zH, zI, zJ, zK, zL, zM, zN, zO, zP, zQ, zR, zS, zT, zU, zV, zW] at hc); (first | (exact absurd rfl hc) | (exact absurd trivial hc) | (exfalso; omega) | skip)) | exact Is.mk rfl rfl | ((conv => whnf); first | with_reducible refine And.intro ?_ ?_ | with_reducible intro hx | exact Is.mk rfl rfl | (with_reducible first | apply Val.via | apply ValH.via) | refine ifB_intro ?_ ?_ | refine xA (by omega) ?_ | ((refine xB ?_); intro kw hk1 hk2) | refine xC (by omega) ?_ | refine xD ?_ | refine xE (by omega) ?_ | refine xF (by omega) ?_ | refine xG ?_ | refine xH ?_ | refine xI (by omega) ?_ | refine xJ (by omega) ?_ | (with_reducible refine stopA ?_) | refine Exists.intro _ (And.intro (by (first | exact vat_of rfl rfl rfl | exact vbytes_map nm | rfl)) ?_) | refine GOp.drawn (by rfl) (by rfl) (Nat.le_of_ble_eq_true (by rfl)) (by rfl) | refine GOp.via (by rfl) ?_ | refine GWP.drawY mixed _ (by kernel_rfl) (by rfl) ?_ | fail | (with_reducible first | refine stopO ?_ | refine stopE ?_ | refine stopD ?_ | refine stopW ?_ | refine stopG ?_ | refine stopC ?_ | refine stopR ?_)))
      (all_goals (first | omega | (rw [List.length_map]; done) | (rw [List.length_map]; omega) | skip))
      exact Done'.mk ⟨rfl, Frz.tp (.cons (Frz.agL (.cons Frz.nil0 .nil)) (.cons (Frz.of (nameless_sc _)) .nil))⟩
    · rw [if_neg h64]
      have k1 := fun H => clonePs_call acc (by omega) H
      have k2 : ∀ (H : Heap), H.get 0 = some (.cells true (x.map bV)) → VCall Tryd.prog 70 [.sl 0 0 x.length none 1] H (fun v K => v = roB x ∧ K = H) := fun H hg => cloneV_call x (by omega) hg rfl
      repeat' (first | with_reducible refine And.intro ?_ ?_ | ((with_reducible intro hc); (try simp only [zA, zB, zC, zD, zE, zF, zG, zH, zI, zJ, zK, zL, zM, zN, zO, zP, zQ, zR, zS, zT, zU, zV, zW] at hc); (first | (exact absurd rfl hc) | (exact absurd trivial hc) | (exfalso; omega) | skip)) | exact Is.mk rfl rfl | ((conv => whnf); first | with_reducible refine And.intro ?_ ?_ | with_reducible intro hx | exact Is.mk rfl rfl | (with_reducible first | apply Val.via | apply ValH.via) | refine ifB_intro ?_ ?_ | refine xA (by omega) ?_ | ((refine xB ?_); intro kw hk1 hk2) | refine xC (by omega) ?_ | refine xD ?_ | refine xE (by omega) ?_ | refine xF (by omega) ?_ | refine xG ?_ | refine xH ?_ | refine xI (by omega) ?_ | refine xJ (by omega) ?_ | (with_reducible refine stopA ?_) | refine Exists.intro _ (And.intro (by (first | exact vat_of rfl rfl rfl | exact vbytes_map nm | rfl)) ?_) | refine GOp.drawn (by rfl) (by rfl) (Nat.le_of_ble_eq_true (by rfl)) (by rfl) | refine GOp.via (by rfl) ?_ | fail | (with_reducible first | refine stopO ?_ | refine stopE ?_ | refine stopD ?_ | refine stopW ?_ | refine stopG ?_ | refine stopC ?_ | refine stopR ?_)))
      (all_goals (first | omega | (rw [List.length_map]; done) | (rw [List.length_map]; omega) | skip))
      refine GWP'.mk (GWP.drawM mixed 24 [2, 9, 11] (fun H => [⟨(3, .opt (rowsP acc)) :: H.objs, 4⟩, ((⟨(3, .opt (rowsP acc)) :: H.objs, 4⟩ : Heap).del 3).add (.opt (rowsP acc ++ [strV nm, roB x])), (((⟨(3, .opt (rowsP acc)) :: H.objs, 4⟩ : Heap).del 3).add (.opt (rowsP acc ++ [strV nm, roB x]))).set 2 (.cells true [.gs 4 (acc.length + 1) 2])]) (by kernel_rfl) (by rfl) ?_)
      repeat' (first | with_reducible refine And.intro ?_ ?_ | ((with_reducible intro hc); (try simp only [zA, zB, zC, zD, zE, zF, zG, zH, zI, zJ, zK, zL, zM, zN, zO, zP, zQ, zR, zS, zT, zU, zV, zW] at hc); (first | (exact absurd rfl hc) | (exact absurd trivial hc) | (exfalso; omega) | skip)) | exact Is.mk rfl rfl | exact trivial | ((conv => whnf); first | with_reducible refine And.intro ?_ ?_ | with_reducible intro hx | exact Is.mk rfl rfl | exact trivial | (with_reducible first | apply Val.via | apply ValH.via) | refine ifB_intro ?_ ?_ | refine xA (by omega) ?_ | ((refine xB ?_); intro kw hk1 hk2) | refine xC (by omega) ?_ | refine xD ?_ | refine xE (by omega) ?_ | refine xF (by omega) ?_ | refine xG ?_ | refine xH ?_ | refine xI (by omega) ?_ | refine xJ (by omega) ?_ | (with_reducible refine stopA ?_) | refine Exists.intro _ (And.intro (by (first | exact vat_of rfl rfl rfl | exact vbytes_map nm | rfl)) ?_) | (refine GOp.drawnP (by rfl) (by rfl) (by rfl)) | refine GOp.drawn (by rfl) (by rfl) (Nat.le_of_ble_eq_true (by rfl)) (by rfl) | refine GOp.via (by rfl) ?_ | (first | (refine GCall.mk ((k1 _).mono ?_); rintro _ _ ⟨rfl, rfl⟩) | (refine GCall.mk ((k2 _ rfl).mono ?_); rintro _ _ ⟨rfl, rfl⟩) | (refine stopO (GOp'.grow rfl sty_P (d := .slice 120) Tryd.underlying41 (by intro k h; cases h) rfl (m := 1) (l := [strV nm, roB x]) (by rfl) (by rfl) rfl (rowsP_len acc) (by omega) (by omega) ?_))) | (with_reducible first | refine stopO ?_ | refine stopE ?_ | refine stopD ?_ | refine stopW ?_ | refine stopG ?_ | refine stopC ?_ | refine stopR ?_)))
      (all_goals (first | omega | (rw [List.length_map]; done) | (rw [List.length_map]; omega) | skip))
      exact Done'.mk ⟨rfl, frz_pok (b := 4) (l := acc) (f := (nm, x)) rfl⟩
end Go.Proofs.YtmmjgbdihgdekaaDoor

/- A form without a name, walked. -/
namespace Go.Proofs.YtmmjgbdihgdekaaDoor
open Go Go.RowKit
set_option linter.unusedSimpArgs false
set_option linter.unusedVariables false
set_option maxRecDepth 100000
set_option maxHeartbeats 16000000
theorem setRun_rows (f : PF) : ∀ (r : List PF) (k : Nat), k < r.length → setRun (rowsP r) (k * 2) [strV f.1, roB f.2] = rowsP (r.set k f)
  | [], k, h => by simp at h
  | a :: r, 0, _ => rfl
  | a :: r, k + 1, h => by
    have ih := setRun_rows f r k (by simpa using h)
    have e : (k + 1) * 2 = k * 2 + 1 + 1 := by omega
    show ((strV a.1 :: roB a.2 :: rowsP r).set ((k + 1) * 2) _).set ((k + 1) * 2 + 1) _ = strV a.1 :: roB a.2 :: rowsP (r.set k f)
    rw [e, ← ih]
    rfl
theorem vstore_P {H : Heap} {b q k : Nat} {r : List PF} {f : PF} (hg : H.get b = some (.cells true (rowsP r))) (hq : q = k * 2) (hk : k < r.length) : vstore Tryd.prog 120 (.ptr b q) (.ag [strV f.1, roB f.2]) H = some (H.set b (.cells true (rowsP (r.set k f)))) := by
  subst hq
  have hz : vsize Tryd.prog 120 = some 2 := by kernel_rfl
  have h1 : Nat.ble (k * 2 + 2) (rowsP r).length = true := Nat.ble_eq_true_of_le (by rw [rowsP_len]; omega)
  have h2 : ([strV f.1, roB f.2] : List VV).length = 2 := rfl
  have h5 : ([strV f.1, roB f.2] : List VV).all VV.one = true := rfl
  simp only [vstore, hg, cellsOf, hz, h2, h5, Nat.beq_refl, h1, Bool.and_self, setRun_rows f r k hk]
theorem GOp'.slH {P : Program} {o : Oper} {ts : List VV} {H : Heap} {K : VV → Heap → Prop} {t e : TypeId} {x hi : Operand} {b n h z : Nat} (ho : o.op = .slice t x none (some hi) none) (hu : P.underlying t = some (.slice e)) (hz : vsize P e = some z) (hx : veval ts x = .sl b 0 n none z) (hb : vbounds n n none (some (veval ts hi)) none = some (0, h, none)) (k : K (.sl b 0 h none z) H) : GOp' P o ts H K := by
  refine GOp'.via (v := .sl b 0 h none z) (H' := H) ?_ k
  simp only [vop, ho, hx, Option.map_none, Option.map_some]
  simp [vslice, hu, hz, hb]
  rfl
theorem GOp'.clearN {P : Program} {o : Oper} {ts : List VV} {H : Heap} {K : VV → Heap → Prop} {t e : TypeId} {x : Operand} {b q q' m z : Nat} {c : Option Nat} {vs zl : List VV} (hq : q = q') (ho : o.op = .call ⟨.builtin .clear, #[x], #[t]⟩) (hu : P.underlying t = some (.slice e)) (hz : vsize P e = some z) (hzl : vzero P e = some zl) (hx : veval ts x = .sl b q m c z) (hm : 0 < m) (hg : H.get b = some (.cells true vs)) (h1 : zl.length = z) (h2 : zl.all VV.one = true) (h3 : q + m * z ≤ vs.length)
    (k : K (.tp []) (H.set b (.cells true (setRun vs q' (vzeros zl (m * z)))))) : GOp' P o ts H K := by
  subst hq
  obtain ⟨m, rfl⟩ : ∃ j, m = j + 1 := ⟨m - 1, by omega⟩
  refine GOp'.via (v := .tp []) (H' := H.set b (.cells true (setRun vs q (vzeros zl ((m + 1) * z))))) ?_ k
  have h4 : (Nat.beq zl.length z && zl.all VV.one && Nat.ble (q + (m + 1) * z) vs.length) = true := by
    rw [h1, h2, Nat.beq_refl, Nat.ble_eq_true_of_le h3]
    rfl
  simp only [vop, ho, hx, vclear, hu, hz, hzl, hg, h4]
/-- Pairs of other names. -/
def offP (nm : List UInt8) (l : List PF) : List PF := l.filter fun f => f.1 != nm
theorem off_none {nm : List UInt8} {l : List PF} (h : ∀ f ∈ l, f.1 ≠ nm) : offP nm l = l := by
  unfold offP
  rw [List.filter_eq_self]
  intro f hf
  simpa using h f hf
theorem off_snoc (nm : List UInt8) (l : List PF) (f : PF) : offP nm (l ++ [f]) = if f.1 = nm then offP nm l else offP nm l ++ [f] := by
  unfold offP
  rw [List.filter_append]
  by_cases h : f.1 = nm <;> simp [h]
theorem take_nextP {l : List PF} {j : Nat} {x : PF} (h : l[j]? = some x) : l.take (j + 1) = l.take j ++ [x] := by
  obtain ⟨hj, e⟩ := List.getElem?_eq_some_iff.1 h
  rw [List.take_succ_eq_append_getElem hj, e]
theorem rowsP_take (r : List PF) (k : Nat) : (rowsP r).take (k * 2) = rowsP (r.take k) := by
  induction r generalizing k with
  | nil => simp [rowsP]
  | cons a r ih =>
    cases k with
    | zero => simp [rowsP]
    | succ k =>
      rw [show (k + 1) * 2 = k * 2 + 1 + 1 by omega]
      show strV a.1 :: roB a.2 :: (rowsP r).take (k * 2) = strV a.1 :: roB a.2 :: rowsP (r.take k)
      rw [ih]
theorem setRun_mem {α : Type} : ∀ (us vs : List α) (o : Nat) (x : α), x ∈ setRun vs o us → x ∈ vs ∨ x ∈ us
  | [], vs, o, x, h => .inl h
  | u :: us, vs, o, x, h => by
    rcases setRun_mem us (vs.set o u) (o + 1) x h with h | h
    · rcases List.mem_or_eq_of_mem_set h with h | rfl
      · exact .inl h
      · exact .inr (List.mem_cons_self ..)
    · exact .inr (List.mem_cons_of_mem _ h)
theorem setRun_take {α : Type} : ∀ (us vs : List α) (o : Nat), (setRun vs o us).take o = vs.take o
  | [], vs, o => rfl
  | u :: us, vs, o => by
    have h := setRun_take us (vs.set o u) (o + 1)
    have h2 := congrArg (List.take o) h
    rw [List.take_take, List.take_take, show min o (o + 1) = o by omega] at h2
    show (setRun (vs.set o u) (o + 1) us).take o = _
    rw [h2, List.take_set_of_le (Nat.le_refl _)]
theorem vzeros_nameless {zl : List VV} (h : ∀ v ∈ zl, Nameless v) (n : Nat) : ∀ v ∈ vzeros zl n, Nameless v := fun v hv => by
  unfold vzeros at hv
  split at hv
  · rw [List.mem_replicate] at hv
    rw [hv.2]
    exact h _ (by simp)
  · obtain ⟨i, _, rfl⟩ := List.mem_map.1 hv
    cases he : zl[i % zl.length]? with
    | none => exact fun w Z ρ ρ2 y h => by simp only [Option.getD] at h ⊢; cases h; exact .junk
    | some x => exact h _ (List.mem_of_getElem? he)
theorem without0_call (l : List PF) (nm : List UInt8) (hl : l.length ≤ 10000) : VCall Tryd.prog 29 [formV l, .sl 0 0 nm.length none 1] ⟨[(0, .cells true (nm.map bV))], 1⟩ (fun v K => v = formV (offP nm l) ∧ K = ⟨[(0, .cells true (nm.map bV))], 1⟩) := by
  refine VCall.trimB (Q' := fun v => v = formV (offP nm l)) (Q := fun v K => K.get 0 = some (.cells true (nm.map bV)) ∧ Frz ⟨restO [0] K.objs, K.next⟩ v (formV (offP nm l))) ?_ ?_ ?_
  · intro b y hy
    rw [hget_cons] at hy
    split at hy
    · injection hy with hy
      exact ⟨_, .inl hy.symm, nameless_map nameless_bV nm⟩
    · simp [hget] at hy
  rotate_left
  · rintro v K ⟨h1, h2⟩
    refine ⟨fun b z hz => ?_, _, rfl, h2.toB⟩
    rw [hget_cons] at hz
    split at hz
    · rename_i e; subst e; rw [← hz]; exact h1
    · simp [hget] at hz
  refine VCall.go Tryd.func29 rfl ?_
  have k1 := fun H => clonePs_call l (by omega) H
  repeat' (first | with_reducible refine And.intro ?_ ?_ | ((with_reducible intro hc); (try simp only [zA, zB, zC, zD, zE, zF, zG, zH, zI, zJ, zK, zL, zM, zN, zO, zP, zQ, zR, zS, zT, zU, zV, zW] at hc); (first | (exact absurd rfl hc) | (exact absurd trivial hc) | (exfalso; omega) | skip)) | exact Is.mk rfl rfl | ((conv => whnf); first | with_reducible refine And.intro ?_ ?_ | with_reducible intro hx | exact Is.mk rfl rfl | (with_reducible first | apply Val.via | apply ValH.via) | refine ifB_intro ?_ ?_ | refine xA (by omega) ?_ | ((refine xB ?_); intro kw hk1 hk2) | refine xC (by omega) ?_ | refine xD ?_ | refine xE (by omega) ?_ | refine xF (by omega) ?_ | refine xG ?_ | refine xH ?_ | refine xI (by omega) ?_ | refine xJ (by omega) ?_ | (with_reducible refine stopA ?_) | refine Exists.intro _ (And.intro (by (first | exact vat_of rfl rfl rfl | exact vbytes_map nm | exact vbytes_whole _ | rfl)) ?_) | refine GOp.drawn (by rfl) (by rfl) (Nat.le_of_ble_eq_true (by rfl)) (by rfl) | refine GOp.via (by rfl) ?_ | refine GWP.drawY mixed _ (by kernel_rfl) (by rfl) ?_ | (first | (refine GCall.mk ((k1 _).mono ?_); rintro _ _ ⟨rfl, rfl⟩) | (refine GCall.mk (VCall.inl Tryd.func76 rfl ?_)) | (refine GCall.mk (VCall.inl Tryd.func120 rfl ?_))) | (with_reducible first | refine stopO ?_ | refine stopE ?_ | refine stopD ?_ | refine stopW ?_ | refine stopG ?_ | refine stopC ?_ | refine stopR ?_)))
  (all_goals (first | omega | (rw [List.length_map]; done) | (rw [List.length_map]; omega) | contradiction | skip))
  (refine GWP'.mk (GWP.loopB [] (fun (i : Nat) => i ≤ l.length ∧ ∀ f ∈ l.take i, f.1 ≠ nm) (fun i => [(8, iV i)]) (fun i => []) 5 (fun i => l.length - i) 0 ⟨Nat.zero_le _, by simp⟩ ?_); (conv => whnf); refine And.intro ?_ ?_)
  · focus (refine KeptA.of [] rfl rfl (by repeat' (first | exact trivial | refine And.intro rfl ?_)) rfl ?_ ?_; all_goals (repeat' (first | exact trivial | (refine And.intro ?_ ?_) | (refine Exists.intro _ (And.intro rfl ?_)) | (refine RenO.opt ?_) | (refine RenO.toOpt ?_) | (refine RenO.cells ?_) | exact RenO.defs | exact RenL.nil | (refine RenL.cons ?_ ?_) | (first | fail | (with_reducible exact RenV.sc) | exact RenV.gsN | exact RenV.gsZ | exact RenV.gsL (by decide) | exact RenV.slL (by decide) | ((first | refine RenV.gsE (by (first | exact List.Mem.head _ | exact List.Mem.tail _ (List.Mem.head _) | exact List.Mem.tail _ (List.Mem.tail _ (List.Mem.head _)) | (simp; done))) ?_ | refine RenV.eq (scI_eq ?_) (nameless_sc _)); (first | rfl | omega | (simp only [List.length_append, List.length_cons, List.length_nil, List.length_map, List.length_take, List.length_drop] <;> omega) | (simp only <;> omega) | (simp <;> omega))) | exact RenV.undef) | (with_unfolding_all exact (rfl : (_ : VObj) = _)))))
  rintro i ⟨h1, h2⟩
  by_cases hil : i < l.length
  case neg =>
    obtain rfl : i = l.length := by omega
    rw [List.take_length] at h2
    rw [off_none h2]
    repeat' (first | with_reducible refine And.intro ?_ ?_ | ((with_reducible intro hc); (try simp only [zA, zB, zC, zD, zE, zF, zG, zH, zI, zJ, zK, zL, zM, zN, zO, zP, zQ, zR, zS, zT, zU, zV, zW] at hc); (first | (exact absurd rfl hc) | (exact absurd trivial hc) | (exfalso; omega) | skip)) | exact Is.mk rfl rfl | ((conv => whnf); first | with_reducible refine And.intro ?_ ?_ | with_reducible intro hx | exact Is.mk rfl rfl | (with_reducible first | apply Val.via | apply ValH.via) | refine ifB_intro ?_ ?_ | refine xA (by omega) ?_ | ((refine xB ?_); intro kw hk1 hk2) | refine xC (by omega) ?_ | refine xD ?_ | refine xE (by omega) ?_ | refine xF (by omega) ?_ | refine xG ?_ | refine xH ?_ | refine xI (by omega) ?_ | refine xJ (by omega) ?_ | (with_reducible refine stopA ?_) | refine Exists.intro _ (And.intro (by (first | exact vat_of rfl rfl rfl | exact vbytes_map nm | exact vbytes_whole _ | rfl)) ?_) | refine GOp.drawn (by rfl) (by rfl) (Nat.le_of_ble_eq_true (by rfl)) (by rfl) | refine GOp.via (by rfl) ?_ | refine GWP.drawY mixed _ (by kernel_rfl) (by rfl) ?_ | fail | (with_reducible first | refine stopO ?_ | refine stopE ?_ | refine stopD ?_ | refine stopW ?_ | refine stopG ?_ | refine stopC ?_ | refine stopR ?_)))
    (all_goals (first | omega | (rw [List.length_map]; done) | (rw [List.length_map]; omega) | contradiction | skip))
    exact Done'.mk ⟨rfl, Frz.agL (.cons (Frz.gs rfl (rowsP_len l) (rowsP_nameless l)) .nil)⟩
  obtain ⟨f, hfi⟩ : ∃ f, l[i]? = some f := ⟨l[i], List.getElem?_eq_getElem hil⟩
  have htk := take_nextP hfi
  obtain ⟨y, x⟩ := f
  by_cases hy : y = nm
  case neg =>
    repeat' (first | with_reducible refine And.intro ?_ ?_ | ((with_reducible intro hc); (try simp only [zA, zB, zC, zD, zE, zF, zG, zH, zI, zJ, zK, zL, zM, zN, zO, zP, zQ, zR, zS, zT, zU, zV, zW] at hc); (first | (exact absurd rfl hc) | (exact absurd trivial hc) | (exfalso; omega) | skip)) | exact Is.mk rfl rfl | ((conv => whnf); first | with_reducible refine And.intro ?_ ?_ | with_reducible intro hx | exact Is.mk rfl rfl | (with_reducible first | apply Val.via | apply ValH.via) | refine ifB_intro ?_ ?_ | refine xA (by omega) ?_ | ((refine xB ?_); intro kw hk1 hk2) | refine xC (by omega) ?_ | refine xD ?_ | refine xE (by omega) ?_ | refine xF (by omega) ?_ | refine xG ?_ | refine xH ?_ | refine xI (by omega) ?_ | refine xJ (by omega) ?_ | (with_reducible refine stopA ?_) | refine Exists.intro _ (And.intro (by (first | exact vat_rowsP hfi rfl | exact vat_of rfl rfl rfl | exact vbytes_map _ | exact vbytes_whole _ | rfl)) ?_) | refine GOp.drawn (by rfl) (by rfl) (Nat.le_of_ble_eq_true (by rfl)) (by rfl) | refine GOp.via (by rfl) ?_ | refine GWP.drawY mixed _ (by kernel_rfl) (by rfl) ?_ | (refine GCall.mk (VCall.inl Tryd.func77 rfl ?_)) | (with_reducible first | refine stopO ?_ | refine stopE ?_ | refine stopD ?_ | refine stopW ?_ | refine stopG ?_ | refine stopC ?_ | refine stopR ?_)))
    (all_goals (first | omega | (rw [List.length_map]; done) | (rw [List.length_map]; omega) | contradiction | skip))
    focus (refine Done'.mk ⟨(i + 1), ⟨by omega, by rw [htk]; intro f hf; rcases List.mem_append.1 hf with hf | hf; exact h2 f hf; rw [List.mem_singleton.1 hf]; exact hy⟩, ?_, KeptA.of [] rfl rfl (by repeat' (first | exact trivial | refine And.intro rfl ?_)) rfl ?_ ?_⟩; (first | omega | (simp only; omega)); all_goals (repeat' (first | exact trivial | (refine And.intro ?_ ?_) | (refine Exists.intro _ (And.intro rfl ?_)) | (refine RenO.opt ?_) | (refine RenO.toOpt ?_) | (refine RenO.cells ?_) | exact RenO.defs | exact RenL.nil | (refine RenL.cons ?_ ?_) | (first | (exact RenV.eq (scI_eq (by omega)) (nameless_sc _)) | (with_reducible exact RenV.sc) | exact RenV.gsN | exact RenV.gsZ | exact RenV.gsL (by decide) | exact RenV.slL (by decide) | ((first | refine RenV.gsE (by (first | exact List.Mem.head _ | exact List.Mem.tail _ (List.Mem.head _) | exact List.Mem.tail _ (List.Mem.tail _ (List.Mem.head _)) | (simp; done))) ?_ | refine RenV.eq (scI_eq ?_) (nameless_sc _)); (first | rfl | omega | (simp only [List.length_append, List.length_cons, List.length_nil, List.length_map, List.length_take, List.length_drop] <;> omega) | (simp only <;> omega) | (simp <;> omega))) | exact RenV.undef) | (with_unfolding_all exact (rfl : (_ : VObj) = _)))))
  subst hy
  repeat' (first | with_reducible refine And.intro ?_ ?_ | ((with_reducible intro hc); (try simp only [zA, zB, zC, zD, zE, zF, zG, zH, zI, zJ, zK, zL, zM, zN, zO, zP, zQ, zR, zS, zT, zU, zV, zW] at hc); (first | (exact absurd rfl hc) | (exact absurd trivial hc) | (exfalso; omega) | skip)) | exact Is.mk rfl rfl | ((conv => whnf); first | with_reducible refine And.intro ?_ ?_ | with_reducible intro hx | exact Is.mk rfl rfl | (with_reducible first | apply Val.via | apply ValH.via) | refine ifB_intro ?_ ?_ | refine xA (by omega) ?_ | ((refine xB ?_); intro kw hk1 hk2) | refine xC (by omega) ?_ | refine xD ?_ | refine xE (by omega) ?_ | refine xF (by omega) ?_ | refine xG ?_ | refine xH ?_ | refine xI (by omega) ?_ | refine xJ (by omega) ?_ | (with_reducible refine stopA ?_) | refine Exists.intro _ (And.intro (by (first | exact vat_rowsP hfi rfl | exact vat_of rfl rfl rfl | exact vbytes_map _ | exact vbytes_whole _ | rfl)) ?_) | refine GOp.drawn (by rfl) (by rfl) (Nat.le_of_ble_eq_true (by rfl)) (by rfl) | refine GOp.via (by rfl) ?_ | refine GWP.drawY mixed _ (by kernel_rfl) (by rfl) ?_ | (refine GCall.mk (VCall.inl Tryd.func77 rfl ?_)) | (with_reducible first | refine stopO ?_ | refine stopE ?_ | refine stopD ?_ | refine stopW ?_ | refine stopG ?_ | refine stopC ?_ | refine stopR ?_)))
  (all_goals (first | omega | (rw [List.length_map]; done) | (rw [List.length_map]; omega) | contradiction | skip))
  have hl0 : l.length ≠ 0 := by omega
  refine GWP'.ungs (b := 4) (n := l.length) (z := 2) (vs := rowsP l) 0 rfl rfl hl0 ?_
  refine stopW ?_
  (refine GWP'.mk (GWP.loopB [4] (fun (s : List PF × Nat × Nat) => s.2.1 < s.2.2 ∧ s.2.2 ≤ l.length ∧ s.1.length = l.length ∧ s.1.take s.2.1 = offP y (l.take s.2.2) ∧ s.1.drop s.2.2 = l.drop s.2.2) (fun s => [(5, iV s.2.1), (6, iV s.2.2)]) (fun s => [(4, .cells true (rowsP s.1))]) 10 (fun s => l.length - s.2.2) (l, i, i + 1) ⟨by simp, hil, rfl, by rw [htk, off_snoc, if_pos rfl, off_none h2], rfl⟩ ?_); (conv => whnf); refine And.intro ?_ ?_)
  · focus (refine KeptA.of [] rfl rfl (by repeat' (first | exact trivial | refine And.intro rfl ?_)) rfl ?_ ?_; all_goals (repeat' (first | exact trivial | (refine And.intro ?_ ?_) | (refine Exists.intro _ (And.intro rfl ?_)) | (refine RenO.opt ?_) | (refine RenO.toOpt ?_) | (refine RenO.cells ?_) | exact RenO.defs | exact RenL.nil | (refine RenL.cons ?_ ?_) | (first | (first | exact RenL.of (rowsP_nameless _) | exact RenV.eq (scI_eq (by omega)) (nameless_sc _)) | (with_reducible exact RenV.sc) | exact RenV.gsN | exact RenV.gsZ | exact RenV.gsL (by decide) | exact RenV.slL (by decide) | ((first | refine RenV.gsE (by (first | exact List.Mem.head _ | exact List.Mem.tail _ (List.Mem.head _) | exact List.Mem.tail _ (List.Mem.tail _ (List.Mem.head _)) | (simp; done))) ?_ | refine RenV.eq (scI_eq ?_) (nameless_sc _)); (first | rfl | omega | (simp only [List.length_append, List.length_cons, List.length_nil, List.length_map, List.length_take, List.length_drop] <;> omega) | (simp only <;> omega) | (simp <;> omega))) | exact RenV.undef) | (with_unfolding_all exact (rfl : (_ : VObj) = _)))))
  clear htk h1 h2 hil hfi
  rintro ⟨r, k, j⟩ ⟨g1, g2, g3, g4, g5⟩
  simp only at g1 g2 g3 g4 g5 ⊢
  by_cases hjl : j < l.length
  case neg =>
    obtain rfl : j = l.length := by omega
    rw [List.take_length] at g4
    have hrl : (rowsP r).length = l.length * 2 := by rw [rowsP_len, g3]
    have htk2 : (rowsP r).take (k * 2) = rowsP (offP y l) := by rw [rowsP_take, g4]
    have hol : (offP y l).length = k := by rw [← g4, List.length_take]; omega
    repeat' (first | with_reducible refine And.intro ?_ ?_ | ((with_reducible intro hc); (try simp only [zA, zB, zC, zD, zE, zF, zG, zH, zI, zJ, zK, zL, zM, zN, zO, zP, zQ, zR, zS, zT, zU, zV, zW] at hc); (first | (exact absurd rfl hc) | (exact absurd trivial hc) | (exfalso; omega) | skip)) | exact Is.mk rfl rfl | ((conv => whnf); first | with_reducible refine And.intro ?_ ?_ | with_reducible intro hx | exact Is.mk rfl rfl | (with_reducible first | apply Val.via | apply ValH.via) | refine ifB_intro ?_ ?_ | refine xA (by omega) ?_ | ((refine xB ?_); intro kw hk1 hk2) | refine xC (by omega) ?_ | refine xD ?_ | refine xE (by omega) ?_ | refine xF (by omega) ?_ | refine xG ?_ | refine xH ?_ | refine xI (by omega) ?_ | refine xJ (by omega) ?_ | (with_reducible refine stopA ?_) | refine Exists.intro _ (And.intro (by (first | exact vat_of rfl rfl rfl | exact vbytes_map nm | exact vbytes_whole _ | rfl)) ?_) | refine GOp.drawn (by rfl) (by rfl) (Nat.le_of_ble_eq_true (by rfl)) (by rfl) | refine GOp.via (by rfl) ?_ | refine GWP.drawY mixed _ (by kernel_rfl) (by rfl) ?_ | fail | (with_reducible first | refine stopO ?_ | refine stopE ?_ | refine stopD ?_ | refine stopW ?_ | refine stopG ?_ | refine stopC ?_ | refine stopR ?_)))
    (all_goals (first | omega | (rw [List.length_map]; done) | (rw [List.length_map]; omega) | contradiction | skip))
    refine GOp'.slN (l := k) (h := l.length) rfl Tryd.underlying41 (by kernel_rfl) rfl ((vb_l ⟨by omega, by omega⟩).trans (by rw [Int.toNat_natCast])) (by omega) ?_
    repeat' (first | with_reducible refine And.intro ?_ ?_ | ((with_reducible intro hc); (try simp only [zA, zB, zC, zD, zE, zF, zG, zH, zI, zJ, zK, zL, zM, zN, zO, zP, zQ, zR, zS, zT, zU, zV, zW] at hc); (first | (exact absurd rfl hc) | (exact absurd trivial hc) | (exfalso; omega) | skip)) | exact Is.mk rfl rfl | ((conv => whnf); first | with_reducible refine And.intro ?_ ?_ | with_reducible intro hx | exact Is.mk rfl rfl | (with_reducible first | apply Val.via | apply ValH.via) | refine ifB_intro ?_ ?_ | refine xA (by omega) ?_ | ((refine xB ?_); intro kw hk1 hk2) | refine xC (by omega) ?_ | refine xD ?_ | refine xE (by omega) ?_ | refine xF (by omega) ?_ | refine xG ?_ | refine xH ?_ | refine xI (by omega) ?_ | refine xJ (by omega) ?_ | (with_reducible refine stopA ?_) | refine Exists.intro _ (And.intro (by (first | exact vat_of rfl rfl rfl | exact vbytes_map nm | exact vbytes_whole _ | rfl)) ?_) | refine GOp.drawn (by rfl) (by rfl) (Nat.le_of_ble_eq_true (by rfl)) (by rfl) | refine GOp.via (by rfl) ?_ | refine GWP.drawY mixed _ (by kernel_rfl) (by rfl) ?_ | fail | (with_reducible first | refine stopO ?_ | refine stopE ?_ | refine stopD ?_ | refine stopW ?_ | refine stopG ?_ | refine stopC ?_ | refine stopR ?_)))
    (all_goals (first | omega | (rw [List.length_map]; done) | (rw [List.length_map]; omega) | contradiction | skip))
    refine GOp'.clearN (q' := k * 2) (m := l.length - k) (zl := [.sc (.string ⟨#[]⟩), .sc (.slice none 0 0)]) (Nat.zero_add _) rfl Tryd.underlying41 (by kernel_rfl) (by kernel_rfl) rfl (by omega) rfl rfl rfl (by show 0 + k * 2 + (l.length - k) * 2 ≤ (rowsP r).length; rw [hrl]; omega) ?_
    repeat' (first | with_reducible refine And.intro ?_ ?_ | ((with_reducible intro hc); (try simp only [zA, zB, zC, zD, zE, zF, zG, zH, zI, zJ, zK, zL, zM, zN, zO, zP, zQ, zR, zS, zT, zU, zV, zW] at hc); (first | (exact absurd rfl hc) | (exact absurd trivial hc) | (exfalso; omega) | skip)) | exact Is.mk rfl rfl | ((conv => whnf); first | with_reducible refine And.intro ?_ ?_ | with_reducible intro hx | exact Is.mk rfl rfl | (with_reducible first | apply Val.via | apply ValH.via) | refine ifB_intro ?_ ?_ | refine xA (by omega) ?_ | ((refine xB ?_); intro kw hk1 hk2) | refine xC (by omega) ?_ | refine xD ?_ | refine xE (by omega) ?_ | refine xF (by omega) ?_ | refine xG ?_ | refine xH ?_ | refine xI (by omega) ?_ | refine xJ (by omega) ?_ | (with_reducible refine stopA ?_) | refine Exists.intro _ (And.intro (by (first | exact vat_of rfl rfl rfl | exact vbytes_map nm | exact vbytes_whole _ | rfl)) ?_) | refine GOp.drawn (by rfl) (by rfl) (Nat.le_of_ble_eq_true (by rfl)) (by rfl) | refine GOp.via (by rfl) ?_ | refine GWP.drawY mixed _ (by kernel_rfl) (by rfl) ?_ | fail | (with_reducible first | refine stopO ?_ | refine stopE ?_ | refine stopD ?_ | refine stopW ?_ | refine stopG ?_ | refine stopC ?_ | refine stopR ?_)))
    (all_goals (first | omega | (rw [List.length_map]; done) | (rw [List.length_map]; omega) | contradiction | skip))
    refine GOp'.slH (h := k) rfl Tryd.underlying41 (by kernel_rfl) rfl ((vb_h ⟨by omega, by omega⟩).trans (by rw [Int.toNat_natCast])) ?_
    repeat' (first | with_reducible refine And.intro ?_ ?_ | ((with_reducible intro hc); (try simp only [zA, zB, zC, zD, zE, zF, zG, zH, zI, zJ, zK, zL, zM, zN, zO, zP, zQ, zR, zS, zT, zU, zV, zW] at hc); (first | (exact absurd rfl hc) | (exact absurd trivial hc) | (exfalso; omega) | skip)) | exact Is.mk rfl rfl | ((conv => whnf); first | with_reducible refine And.intro ?_ ?_ | with_reducible intro hx | exact Is.mk rfl rfl | (with_reducible first | apply Val.via | apply ValH.via) | refine ifB_intro ?_ ?_ | refine xA (by omega) ?_ | ((refine xB ?_); intro kw hk1 hk2) | refine xC (by omega) ?_ | refine xD ?_ | refine xE (by omega) ?_ | refine xF (by omega) ?_ | refine xG ?_ | refine xH ?_ | refine xI (by omega) ?_ | refine xJ (by omega) ?_ | (with_reducible refine stopA ?_) | refine Exists.intro _ (And.intro (by (first | exact vat_of rfl rfl rfl | exact vbytes_map nm | exact vbytes_whole _ | rfl)) ?_) | refine GOp.drawn (by rfl) (by rfl) (Nat.le_of_ble_eq_true (by rfl)) (by rfl) | refine GOp.via (by rfl) ?_ | refine GWP.drawY mixed _ (by kernel_rfl) (by rfl) ?_ | fail | (with_reducible first | refine stopO ?_ | refine stopE ?_ | refine stopD ?_ | refine stopW ?_ | refine stopG ?_ | refine stopC ?_ | refine stopR ?_)))
    (all_goals (first | omega | (rw [List.length_map]; done) | (rw [List.length_map]; omega) | contradiction | skip))
    have hzn : ∀ v ∈ setRun (rowsP r) (k * 2) (vzeros [.sc (.string ⟨#[]⟩), .sc (.slice none 0 0)] ((l.length - k) * 2)), Nameless v := fun v hv => by
      rcases setRun_mem _ _ _ _ hv with h | h
      · exact rowsP_nameless r v h
      · exact vzeros_nameless (by simp [nameless_sc]) _ v h
    have hfz : ∀ K : Heap, K.get 4 = some (.cells true (setRun (rowsP r) (k * 2) (vzeros [.sc (.string ⟨#[]⟩), .sc (.slice none 0 0)] ((l.length - k) * 2)))) → Frz K (.sl 4 0 k none 2) (.ro (offP y l).length (rowsP (offP y l))) := fun K hg => by
      have := Frz.sl (K := K) (b := 4) (o := 0) (n := k) (z := 2) (c := none) hg (by rw [length_setRun, hrl]; omega) hzn
      rw [List.drop_zero, setRun_take, htk2] at this
      rw [hol]
      exact this
    exact Done'.mk ⟨rfl, Frz.agL (.cons (hfz _ rfl) .nil)⟩
  obtain ⟨f, hfi⟩ : ∃ f, l[j]? = some f := ⟨l[j], List.getElem?_eq_getElem hjl⟩
  have hri : r[j]? = some f := by
    have h3 : (r.drop j)[0]? = (l.drop j)[0]? := by rw [g5]
    rw [List.getElem?_drop, List.getElem?_drop, Nat.add_zero, hfi] at h3
    exact h3
  have htk := take_nextP hfi
  have hd5 : r.drop (j + 1) = l.drop (j + 1) := by
    have := congrArg (List.drop 1) g5
    rwa [List.drop_drop, List.drop_drop] at this
  obtain ⟨z, x⟩ := f
  by_cases hzy : z = y
  · subst hzy
    repeat' (first | with_reducible refine And.intro ?_ ?_ | ((with_reducible intro hc); (try simp only [zA, zB, zC, zD, zE, zF, zG, zH, zI, zJ, zK, zL, zM, zN, zO, zP, zQ, zR, zS, zT, zU, zV, zW] at hc); (first | (exact absurd rfl hc) | (exact absurd trivial hc) | (exfalso; omega) | skip)) | exact Is.mk rfl rfl | ((conv => whnf); first | with_reducible refine And.intro ?_ ?_ | with_reducible intro hx | exact Is.mk rfl rfl | (with_reducible first | apply Val.via | apply ValH.via) | refine ifB_intro ?_ ?_ | refine xA (by omega) ?_ | ((refine xB ?_); intro kw hk1 hk2) | refine xC (by omega) ?_ | refine xD ?_ | refine xE (by omega) ?_ | refine xF (by omega) ?_ | refine xG ?_ | refine xH ?_ | refine xI (by omega) ?_ | refine xJ (by omega) ?_ | (with_reducible refine stopA ?_) | refine Exists.intro _ (And.intro (by (first | exact vat_rowsP hri (Nat.zero_add _) | exact vat_of rfl rfl rfl | exact vbytes_map _ | exact vbytes_whole _ | rfl)) ?_) | refine GOp.drawn (by rfl) (by rfl) (Nat.le_of_ble_eq_true (by rfl)) (by rfl) | refine GOp.via (by rfl) ?_ | refine GWP.drawY mixed _ (by kernel_rfl) (by rfl) ?_ | (refine GCall.mk (VCall.inl Tryd.func77 rfl ?_)) | (with_reducible first | refine stopO ?_ | refine stopE ?_ | refine stopD ?_ | refine stopW ?_ | refine stopG ?_ | refine stopC ?_ | refine stopR ?_)))
    (all_goals (first | omega | (rw [List.length_map]; done) | (rw [List.length_map]; omega) | contradiction | skip))
    focus (refine Done'.mk ⟨(r, k, j + 1), ⟨by simp only; omega, by simp only; omega, g3, by simp only; rw [htk, off_snoc, if_pos rfl]; exact g4, hd5⟩, ?_, KeptA.of [] rfl rfl (by repeat' (first | exact trivial | refine And.intro rfl ?_)) rfl ?_ ?_⟩; (first | omega | (simp only; omega)); all_goals (repeat' (first | exact trivial | (refine And.intro ?_ ?_) | (refine Exists.intro _ (And.intro rfl ?_)) | (refine RenO.opt ?_) | (refine RenO.toOpt ?_) | (refine RenO.cells ?_) | exact RenO.defs | exact RenL.nil | (refine RenL.cons ?_ ?_) | (first | (first | exact RenL.of (rowsP_nameless _) | exact RenV.eq (scI_eq (by omega)) (nameless_sc _)) | (with_reducible exact RenV.sc) | exact RenV.gsN | exact RenV.gsZ | exact RenV.gsL (by decide) | exact RenV.slL (by decide) | ((first | refine RenV.gsE (by (first | exact List.Mem.head _ | exact List.Mem.tail _ (List.Mem.head _) | exact List.Mem.tail _ (List.Mem.tail _ (List.Mem.head _)) | (simp; done))) ?_ | refine RenV.eq (scI_eq ?_) (nameless_sc _)); (first | rfl | omega | (simp only [List.length_append, List.length_cons, List.length_nil, List.length_map, List.length_take, List.length_drop] <;> omega) | (simp only <;> omega) | (simp <;> omega))) | exact RenV.undef) | (with_unfolding_all exact (rfl : (_ : VObj) = _)))))
  · repeat' (first | with_reducible refine And.intro ?_ ?_ | ((with_reducible intro hc); (try simp only [zA, zB, zC, zD, zE, zF, zG, zH, zI, zJ, zK, zL, zM, zN, zO, zP, zQ, zR, zS, zT, zU, zV, zW] at hc); (first | (exact absurd rfl hc) | (exact absurd trivial hc) | (exfalso; omega) | skip)) | exact Is.mk rfl rfl | ((conv => whnf); first | with_reducible refine And.intro ?_ ?_ | with_reducible intro hx | exact Is.mk rfl rfl | (with_reducible first | apply Val.via | apply ValH.via) | refine ifB_intro ?_ ?_ | refine xA (by omega) ?_ | ((refine xB ?_); intro kw hk1 hk2) | refine xC (by omega) ?_ | refine xD ?_ | refine xE (by omega) ?_ | refine xF (by omega) ?_ | refine xG ?_ | refine xH ?_ | refine xI (by omega) ?_ | refine xJ (by omega) ?_ | (with_reducible refine stopA ?_) | refine Exists.intro _ (And.intro (by (first | exact vat_rowsP hri (Nat.zero_add _) | exact vat_of rfl rfl rfl | exact vbytes_map _ | exact vbytes_whole _ | rfl)) ?_) | refine GOp.drawn (by rfl) (by rfl) (Nat.le_of_ble_eq_true (by rfl)) (by rfl) | refine GOp.via (by rfl) ?_ | refine GWP.drawY mixed _ (by kernel_rfl) (by rfl) ?_ | (refine GCall.mk (VCall.inl Tryd.func77 rfl ?_)) | (with_reducible first | refine stopO ?_ | refine stopE ?_ | refine stopD ?_ | refine stopW ?_ | refine stopG ?_ | refine stopC ?_ | refine stopR ?_)))
    (all_goals (first | omega | (rw [List.length_map]; done) | (rw [List.length_map]; omega) | contradiction | skip))
    apply GOp'.via
    case h => exact vop_store rfl (vstore_P (k := k) (f := (z, x)) (r := r) rfl (Nat.zero_add _) (by omega))
    repeat' (first | with_reducible refine And.intro ?_ ?_ | ((with_reducible intro hc); (try simp only [zA, zB, zC, zD, zE, zF, zG, zH, zI, zJ, zK, zL, zM, zN, zO, zP, zQ, zR, zS, zT, zU, zV, zW] at hc); (first | (exact absurd rfl hc) | (exact absurd trivial hc) | (exfalso; omega) | skip)) | exact Is.mk rfl rfl | ((conv => whnf); first | with_reducible refine And.intro ?_ ?_ | with_reducible intro hx | exact Is.mk rfl rfl | (with_reducible first | apply Val.via | apply ValH.via) | refine ifB_intro ?_ ?_ | refine xA (by omega) ?_ | ((refine xB ?_); intro kw hk1 hk2) | refine xC (by omega) ?_ | refine xD ?_ | refine xE (by omega) ?_ | refine xF (by omega) ?_ | refine xG ?_ | refine xH ?_ | refine xI (by omega) ?_ | refine xJ (by omega) ?_ | (with_reducible refine stopA ?_) | refine Exists.intro _ (And.intro (by (first | exact vat_of rfl rfl rfl | exact vbytes_map nm | exact vbytes_whole _ | rfl)) ?_) | refine GOp.drawn (by rfl) (by rfl) (Nat.le_of_ble_eq_true (by rfl)) (by rfl) | refine GOp.via (by rfl) ?_ | refine GWP.drawY mixed _ (by kernel_rfl) (by rfl) ?_ | fail | (with_reducible first | refine stopO ?_ | refine stopE ?_ | refine stopD ?_ | refine stopW ?_ | refine stopG ?_ | refine stopC ?_ | refine stopR ?_)))
    (all_goals (first | omega | (rw [List.length_map]; done) | (rw [List.length_map]; omega) | contradiction | skip))
    have hs1 : (r.set k (z, x)).take (k + 1) = offP y (l.take (j + 1)) := by
      rw [htk, off_snoc, if_neg hzy, ← g4]
      have hk : (r.set k (z, x))[k]? = some (z, x) := by rw [List.getElem?_set_self (by omega)]
      rw [take_nextP hk, List.take_set_of_le (Nat.le_refl _)]
    have hs2 : (r.set k (z, x)).drop (j + 1) = l.drop (j + 1) := by rw [List.drop_set_of_lt (by omega), hd5]
    focus (refine Done'.mk ⟨(r.set k (z, x), k + 1, j + 1), ⟨by simp only; omega, by simp only; omega, by simp only [List.length_set]; exact g3, hs1, hs2⟩, ?_, KeptA.of [] rfl rfl (by repeat' (first | exact trivial | refine And.intro rfl ?_)) rfl ?_ ?_⟩; (first | omega | (simp only; omega)); all_goals (repeat' (first | exact trivial | (refine And.intro ?_ ?_) | (refine Exists.intro _ (And.intro rfl ?_)) | (refine RenO.opt ?_) | (refine RenO.toOpt ?_) | (refine RenO.cells ?_) | exact RenO.defs | exact RenL.nil | (refine RenL.cons ?_ ?_) | (first | (first | exact RenL.of (rowsP_nameless _) | exact RenV.eq (scI_eq (by omega)) (nameless_sc _)) | (with_reducible exact RenV.sc) | exact RenV.gsN | exact RenV.gsZ | exact RenV.gsL (by decide) | exact RenV.slL (by decide) | ((first | refine RenV.gsE (by (first | exact List.Mem.head _ | exact List.Mem.tail _ (List.Mem.head _) | exact List.Mem.tail _ (List.Mem.tail _ (List.Mem.head _)) | (simp; done))) ?_ | refine RenV.eq (scI_eq ?_) (nameless_sc _)); (first | rfl | omega | (simp only [List.length_append, List.length_cons, List.length_nil, List.length_map, List.length_take, List.length_drop] <;> omega) | (simp only <;> omega) | (simp <;> omega))) | exact RenV.undef) | (with_unfolding_all exact (rfl : (_ : VObj) = _)))))
end Go.Proofs.YtmmjgbdihgdekaaDoor

/- A form's text, parsed, is it: in plain words. -/
namespace Go.Proofs.YtmmjgbdihgdekaaDoor
open Go Go.RowKit
set_option linter.unusedSimpArgs false
set_option linter.unusedVariables false
theorem cd_facts0 : ∀ k : Fin 256, ((cdC (UInt8.ofNat k.val)).all fun c => c != 38 && c != 61) = true := by decide +kernel
theorem cd_no (b : UInt8) : (38 : UInt8) ∉ cdC b ∧ (61 : UInt8) ∉ cdC b := by
  have h := cd_facts0 ⟨b.toNat, b.toNat_lt⟩
  simp only [UInt8.ofNat_toNat, List.all_eq_true, Bool.and_eq_true, bne_iff_ne] at h
  exact ⟨fun e => (h _ e).1 rfl, fun e => (h _ e).2 rfl⟩
theorem codedB_no (l : List UInt8) : (38 : UInt8) ∉ codedB l ∧ (61 : UInt8) ∉ codedB l := by
  unfold codedB
  constructor
  · intro h
    obtain ⟨b, _, hb⟩ := List.mem_flatMap.1 h
    exact (cd_no b).1 hb
  · intro h
    obtain ⟨b, _, hb⟩ := List.mem_flatMap.1 h
    exact (cd_no b).2 hb
theorem it_facts1 : ∀ k : Fin 256, (cdC (UInt8.ofNat k.val) = [43] ∧ k.val = 32) ∨ (cdC (UInt8.ofNat k.val) = [UInt8.ofNat k.val] ∧ k.val ≠ 37 ∧ k.val ≠ 43) ∨ (cdC (UInt8.ofNat k.val) = [37, hexD (k.val / 16), hexD (k.val % 16)] ∧ hexN (hexD (k.val / 16)) = k.val / 16 ∧ hexN (hexD (k.val % 16)) = k.val % 16) := by decide +kernel
theorem it_cd (b : UInt8) (r : List UInt8) : (itB (cdC b ++ r)).map (·.map fixI) = ((itB r).map (·.map fixI)).map (b :: ·) := by
  have h := it_facts1 ⟨b.toNat, b.toNat_lt⟩
  simp only [UInt8.ofNat_toNat] at h
  rcases h with ⟨e, hb⟩ | ⟨e, h1, h2⟩ | ⟨e, h1, h2⟩
  · have hb : b = 32 := UInt8.toNat_inj.1 hb
    subst hb
    rw [e, List.singleton_append, itB_plain (by decide), map_fix]
    rfl
  · have n37 : b ≠ 37 := fun q => h1 (by rw [q]; rfl)
    have n43 : b ≠ 43 := fun q => h2 (by rw [q]; rfl)
    rw [e, List.singleton_append, itB_plain n37, map_fix]
    unfold s43
    rw [if_neg n43]
  · have hlt := b.toNat_lt
    rw [e]
    show (itB (37 :: hexD (b.toNat / 16) :: hexD (b.toNat % 16) :: r)).map (·.map fixI) = _
    rw [itB_hex, h1, h2, if_pos (by omega), map_fixT, show b.toNat / 16 * 16 + b.toNat % 16 = b.toNat by omega, UInt8.ofNat_toNat]
theorem plain_coded (l : List UInt8) : plainB (codedB l) = some l := by
  rw [← plain_items]
  induction l with
  | nil => rfl
  | cons b r ih =>
    show (itB (cdC b ++ codedB r)).map (·.map fixI) = _
    rw [it_cd, ih]
    rfl
/-- A pair, as it stands in a text. -/
def pieceP (f : PF) : List UInt8 := codedB f.1 ++ 61 :: codedB f.2
theorem pieceP_no (f : PF) : (38 : UInt8) ∉ pieceP f := by
  unfold pieceP
  intro h
  rcases List.mem_append.1 h with h | h
  · exact (codedB_no f.1).1 h
  · rcases List.mem_cons.1 h with h | h
    · cases h
    · exact (codedB_no f.2).1 h
theorem pieceP_ne (f : PF) : pieceP f ≠ [] := by
  unfold pieceP
  intro h
  have := (List.append_eq_nil_iff.1 h).2
  cases this
theorem cutP_hit {p s : List UInt8} {b : UInt8} (h : b ∉ p) : cutB (p ++ b :: s) b = (p, s, true) := by
  unfold cutB
  have h1 : (p ++ b :: s).contains b = true := by simp
  have h2 : (p ++ b :: s).idxOf b = p.length := by
    rw [List.idxOf_append, if_neg h]
    simp
  rw [if_pos h1, h2]
  simp
theorem splitGo_end {b : UInt8} : ∀ {p cur : List UInt8}, b ∉ p → splitGo b p cur = [cur ++ p]
  | [], cur, _ => by rw [splitGo, List.append_nil]
  | c :: p, cur, h => by
    rw [splitGo, if_neg (fun e => h (by simp [e])), splitGo_end (fun e => h (by simp [e]))]
    simp
theorem splitGo_piece {b : UInt8} {r : List UInt8} : ∀ {p cur : List UInt8}, b ∉ p → splitGo b (p ++ b :: r) cur = (cur ++ p) :: splitGo b r []
  | [], cur, _ => by rw [List.nil_append, splitGo, if_pos rfl, List.append_nil]
  | c :: p, cur, h => by
    rw [List.cons_append, splitGo, if_neg (fun e => h (by simp [e])), splitGo_piece (fun e => h (by simp [e]))]
    simp
theorem split_textN (f : PF) : ∀ (l : List PF) (i : Nat), splitGo 38 (pieceP f ++ textN (i + 1) l) [] = (f :: l).map pieceP
  | [], i => by
    show splitGo 38 (pieceP f ++ []) [] = _
    rw [List.append_nil, splitGo_end (pieceP_no f)]
    rfl
  | g :: l, i => by
    have e : textN (i + 1) (g :: l) = 38 :: (pieceP g ++ textN (i + 1 + 1) l) := by
      show (if 0 < i + 1 then [38] else []) ++ (codedB g.1 ++ [61] ++ codedB g.2) ++ textN (i + 1 + 1) l = _
      rw [if_pos (by omega)]
      unfold pieceP
      simp
    rw [e, splitGo_piece (pieceP_no f), split_textN g l (i + 1)]
    rfl
theorem pfold_pieces : ∀ (l acc : List PF), acc.length + l.length ≤ 64 → pfold (l.map pieceP) acc = .ok (acc ++ l)
  | [], acc, _ => by rw [List.append_nil]; rfl
  | f :: l, acc, h => by
    simp only [List.length_cons] at h
    rw [List.map_cons, pfold_cons, if_neg (pieceP_ne f), if_neg (by omega)]
    have e : cutB (pieceP f) 61 = (codedB f.1, codedB f.2, true) := cutP_hit (codedB_no f.1).2
    rw [e]
    simp only [plain_coded]
    rw [pfold_pieces l (acc ++ [(f.1, f.2)]) (by simp only [List.length_append, List.length_cons, List.length_nil]; omega)]
    simp
theorem parse_text (l : List PF) (h64 : l.length ≤ 64) (ht : (textP l).length ≤ 4096) : pparse (textP l) = .ok l := by
  unfold pparse
  rw [if_neg (by omega)]
  cases l with
  | nil => rfl
  | cons f r =>
    have e : textP (f :: r) = pieceP f ++ textN 1 r := by
      show (if 0 < 0 then [38] else []) ++ (codedB f.1 ++ [61] ++ codedB f.2) ++ textN (0 + 1) r = _
      unfold pieceP
      simp
    unfold splitB
    rw [e, split_textN f r 0, pfold_pieces (f :: r) [] (by simpa using h64)]
    rfl
theorem parse_long (l : List PF) (ht : 4096 < (textP l).length) : pparse (textP l) = .err 3 := by
  unfold pparse
  rw [if_pos ht]
end Go.Proofs.YtmmjgbdihgdekaaDoor

/- What comes in, as values of the walk: rows of two texts. Over any program. -/
namespace Go.Proofs.YtmmjgbdihgdekaaDoor
open Go Go.ChangeShapes Go.WideShapes Go.RowKit
set_option linter.unusedSimpArgs false
set_option linter.unusedVariables false
theorem cell_str {P : Program} {H : Type} {enc : TypeId × Value → H} {W : World} {t : TypeId} {v : Value} {fuel : Nat} {x : DataW H × List MemPlace} (ut : P.underlying t = some .string)
    (hf : DataW.trod enc P W 0 (fun _ => true) true fuel t [v] = some x) : ∃ l : List UInt8, l.length ≤ maxLen ∧ VRel W (Old W) noName (strV l) v := by
  obtain ⟨s, hs, _, hw⟩ := DataW.trod_string ut hf
  obtain rfl : v = .string s := by simpa using hs
  obtain ⟨⟨l⟩⟩ := s
  exact ⟨l, by simpa [ByteArray.size] using hw, .sc rfl⟩
theorem rows2_getT (a b : PF → VV) : ∀ (l : List PF) (i : Nat), ((l.flatMap fun f => [a f, b f])[2 * i]? = (l[i]?).map a) ∧ ((l.flatMap fun f => [a f, b f])[2 * i + 1]? = (l[i]?).map b)
  | [], i => by simp
  | x :: l, 0 => by simp
  | x :: l, i + 1 => by
    have ih := rows2_getT a b l i
    rw [List.flatMap_cons, show 2 * (i + 1) = 2 * i + 1 + 1 by omega]
    exact ih
theorem open_rT {P : Program} {H : Type} {enc : TypeId × Value → H} {W : World} {base : Nat} {t e : TypeId} {f0 f1 : Field} {v : Value} {d : DataW H} {p : List MemPlace} (ut : P.underlying t = some (.slice e)) (ue : P.underlying e = some (.struct #[f0, f1]))
    (ce : P.cellsOf e = 2) (o0 : f0.offset = 0) (o1 : f1.offset = 1) (c0 : P.cellsOf f0.type = 1) (c1 : P.cellsOf f1.type = 1)
    (t0 : P.underlying f0.type = some .string) (t1 : P.underlying f1.type = some .string)
    (hval : Value.okWide P W .any base t v) (h : DataW.Trod enc P W 0 (fun _ => true) true t v d p) : ∃ l : List PF, l.length ≤ maxLen ∧ (∀ f ∈ l, f.1.length ≤ maxLen ∧ f.2.length ≤ maxLen) ∧ VRel W (Old W) noName (.ro l.length (rowsT l)) v := by
  obtain ⟨a1, len, cap, rfl⟩ := okWide_slice ut hval
  obtain ⟨fuel, hf⟩ := h
  rcases Go.Deep.open_slice_pairs ut ue ce o0 o1 c0 c1 hf with ⟨hcs, hx⟩ | ⟨a, len', cap', m, n, V0, V1, D0, D1, P0, P1, hcs, _, hl, hm, hmm, hx, hcell⟩
  · simp [Value.cells] at hcs
    obtain ⟨rfl, rfl, rfl⟩ := hcs
    exact ⟨[], Nat.zero_le _, (by simp), .ro0⟩
  · simp [Value.cells] at hcs
    obtain ⟨rfl, rfl, rfl⟩ := hcs
    simp only [if_true] at hmm
    subst hmm
    have each : ∀ i, i < m → ∃ f : PF, (f.1.length ≤ maxLen ∧ f.2.length ≤ maxLen) ∧ VRel W (Old W) noName (strV f.1) (V0 i) ∧ VRel W (Old W) noName (strV f.2) (V1 i) := fun i hi => by
      obtain ⟨_, _, g0, g1⟩ := hcell i hi
      obtain ⟨x, hx, rx⟩ := cell_str t0 g0
      obtain ⟨y, hy, ry⟩ := cell_str t1 g1
      exact ⟨(x, y), ⟨hx, hy⟩, rx, ry⟩
    obtain ⟨q, hq⟩ := Go.Deep.choose_lt each
    refine ⟨(List.range len).map q, by simp; omega, fun f hf => ?_, ?_⟩
    · obtain ⟨i, hi, rfl⟩ := List.mem_map.1 hf
      exact (hq i (by have := List.mem_range.1 hi; omega)).1
    have hlen : ((List.range len).map q).length = len := by simp
    rw [hlen]
    by_cases h0 : len = 0
    · subst h0
      exact .ro0
    · obtain ⟨ab, ao, spot⟩ := a
      have hspot : spot = none := by simpa [Addr.add] using World.cell?_spot (hcell 0 (by omega)).1
      subst hspot
      have hZ : Old W ab := by
        have := (hcell 0 (by omega)).1
        unfold Old
        simp only [Addr.add, World.cell?] at this
        cases hh : W.heap[ab]? with
        | none => simp [hh] at this
        | some o => exact (Array.getElem?_eq_some_iff.1 hh).1
      have hcs : ∀ i, i < len → ((List.range len).flatMap fun j => [V0 j, V1 j])[2 * i]? = some (V0 i) ∧ ((List.range len).flatMap fun j => [V0 j, V1 j])[2 * i + 1]? = some (V1 i) := by
        have key : ∀ (l : List Nat) (i : Nat), ((l.flatMap fun j => [V0 j, V1 j])[2 * i]? = (l[i]?).map V0) ∧ ((l.flatMap fun j => [V0 j, V1 j])[2 * i + 1]? = (l[i]?).map V1) := by
          intro l
          induction l with
          | nil => intro i; simp
          | cons x l ih =>
            intro i
            cases i with
            | zero => simp
            | succ i =>
              rw [List.flatMap_cons, show 2 * (i + 1) = 2 * i + 1 + 1 by omega]
              exact ih i
        intro i hi
        have := key (List.range len) i
        rw [List.getElem?_range hi] at this
        exact this
      have hll : ((List.range len).flatMap fun j => [V0 j, V1 j]).length = len * 2 := by
        have key : ∀ l : List Nat, (l.flatMap fun j => [V0 j, V1 j]).length = l.length * 2 := by
          intro l
          induction l with
          | nil => rfl
          | cons x l ih => rw [List.flatMap_cons, List.length_append, ih, List.length_cons]; simp; omega
        rw [key, List.length_range]
      have hrow : ∀ i, i < len → ((List.range len).map q)[i]? = some (q i) := fun i hi => by rw [List.getElem?_map, List.getElem?_range hi]; rfl
      refine .ro (cs := (List.range len).flatMap fun j => [V0 j, V1 j]) hZ hl (by rw [hll, rowsT_len, hlen]) (fun i hi => ?_) (fun i u c hu hc => ?_)
      · rw [hll] at hi
        have hi2 : i / 2 < len := by omega
        obtain ⟨g0, g1, _, _⟩ := hcell (i / 2) (by omega)
        rw [Addr.add_lit] at g0 g1
        rcases Nat.mod_two_eq_zero_or_one i with h | h
        · have e : i = 2 * (i / 2) := by omega
          rw [e, (hcs _ hi2).1, ← g0]
          congr 2
          omega
        · have e : i = 2 * (i / 2) + 1 := by omega
          rw [e, (hcs _ hi2).2, ← g1]
          congr 2
          omega
      · have hi : i < len * 2 := by
          have := (List.getElem?_eq_some_iff.1 hc).1
          omega
        have hi2 : i / 2 < len := by omega
        obtain ⟨_, k0, k1⟩ := hq (i / 2) (by omega)
        have hr := rows2_getT (fun f => strV f.1) (fun f => strV f.2) ((List.range len).map q) (i / 2)
        rw [hrow _ hi2] at hr
        rcases Nat.mod_two_eq_zero_or_one i with h | h
        · have e : i = 2 * (i / 2) := by omega
          rw [e, (hcs _ hi2).1] at hc
          rw [e] at hu
          have hu : some (strV (q (i / 2)).1) = some u := hr.1.symm.trans hu
          injection hu with hu
          injection hc with hc
          subst hu hc
          exact k0
        · have e : i = 2 * (i / 2) + 1 := by omega
          rw [e, (hcs _ hi2).2] at hc
          rw [e] at hu
          have hu : some (strV (q (i / 2)).2) = some u := hr.2.symm.trans hu
          injection hu with hu
          injection hc with hc
          subst hu hc
          exact k1
end Go.Proofs.YtmmjgbdihgdekaaDoor

