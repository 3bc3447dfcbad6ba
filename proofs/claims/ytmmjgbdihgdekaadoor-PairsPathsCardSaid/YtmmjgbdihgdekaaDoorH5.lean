import Derived.Test.YtmmjgbdihgdekaaDoorH4
import Derived.Test.YtmmjgbdihgdekaaDoorChecked
import Derived.Test.YtmmjgbdihgdekaaDoorH3
import Derived.Deep.Strs
/- Helpers over this seat's program: bytes, texts, slices that grow, frozen rows. -/
namespace Go.Proofs.YtmmjgbdihgdekaaDoor
open Go Go.RowKit
set_option linter.unusedSimpArgs false
set_option linter.unusedVariables false
set_option maxRecDepth 100000
set_option maxHeartbeats 4000000
theorem mixed : (Tryd.prog).follows .mixedOrders = true := by kernel_rfl
theorem vagg_u8 : vagg Tryd.prog 5 = some false := by kernel_rfl
theorem info_u8 : ∃ i, (Tryd.prog).info? 5 = some i ∧ i.size = 1 ∧ i.bytes = 1 := ⟨_, rfl, rfl, rfl⟩
theorem zero_u8 : ∃ zl, vzero Tryd.prog 5 = some zl ∧ zl.length = 1 := ⟨_, rfl, rfl⟩
theorem one_map (l : List UInt8) : (l.map bV).all VV.one = true := by simp [bV, VV.one]
theorem vapp_nil {l : List UInt8} {H : Heap} {b : Nat} (hl : l.length = 0) : vappend Tryd.prog 22 22 (.sl b 0 0 (some 0) 1) (roB l) H = some (.sl b 0 0 (some 0) 1, H) := by
  obtain ⟨i, h1, h2, h3⟩ := info_u8
  obtain ⟨zl, h4, h5⟩ := zero_u8
  simp only [vappend, Tryd.underlying22, h1, h4, h2, roB, velems, List.length_map, Nat.mul_one, if_true, h5, Nat.beq_refl, one_map, Bool.and_self, vappCase, hl]
theorem vapp_new {l : List UInt8} {H : Heap} {b : Nat} {vs : List VV} (hl : ¬ l.length = 0) (hm : l.length ≤ 140737488355328) (hg : H.get b = some (.cells true vs)) : vappend Tryd.prog 22 22 (.sl b 0 0 (some 0) 1) (roB l) H = some (.sl H.next 0 l.length none 1, H.add (.cells true (l.map bV))) := by
  obtain ⟨i, h1, h2, h3⟩ := info_u8
  obtain ⟨zl, h4, h5⟩ := zero_u8
  simp only [vappend, Tryd.underlying22, h1, h4, h2, h3, roB, velems, List.length_map, Nat.mul_one, if_true, h5, Nat.beq_refl, one_map, Bool.and_self, vappCase, if_neg hl, hg, Nat.zero_add, if_neg (show ¬ l.length ≤ 0 by omega)]
  rw [if_pos ⟨by omega, by omega, by omega⟩]
  simp
theorem vop_store {P : Program} {o : Oper} {ts : List VV} {H H' : Heap} {t : TypeId} {a x : Operand} (ho : o.op = .store t a x) (h : vstore P t (veval ts a) (veval ts x) H = some H') : vop P o ts H = some (.tp [], H') := by
  simp only [vop, ho, h]
theorem vop_make {P : Program} {o : Oper} {ts : List VV} {H : Heap} {r : VV × Heap} {t : TypeId} {a x : Operand} (ho : o.op = .makeSlice t a x) (h : vmakeSlice P t (veval ts a) (veval ts x) H = some r) : vop P o ts H = some r := by
  simp only [vop, ho, h]
theorem zeros_u8 (n : Nat) : ∃ zl, vzero Tryd.prog 5 = some zl ∧ zl.length = 1 ∧ vzeros zl (n * 1) = List.replicate n (bV 0) := by
  refine ⟨[bV 0], rfl, rfl, ?_⟩
  show List.replicate (n * 1) (bV 0) = _
  rw [Nat.mul_one]
theorem vmake_u8 {H : Heap} {n : Nat} (hn : n ≤ 140737488355328) : vmakeSlice Tryd.prog 22 (iV n) (iV n) H = some (.sl H.next 0 n (some n) 1, H.add (.cells true (List.replicate n (bV 0)))) := by
  obtain ⟨i, h1, h2, h3⟩ := info_u8
  obtain ⟨zl, h4, h5, h6⟩ := zeros_u8 n
  simp only [vmakeSlice, iV, Tryd.underlying22, h1, h4, h2, h3, Int.toNat_natCast, h6]
  rw [if_pos ⟨by omega, by omega, by omega, by omega, h5, by omega⟩]
theorem sty_b : SlTy Tryd.prog 22 1 1 := ⟨⟨_, _, _, rfl, rfl, rfl, rfl, rfl, rfl⟩⟩
theorem velems_roB (l : List UInt8) (H : Heap) : velems 1 (roB l) H = some (l.length, l.map bV) := by simp [velems, roB]
theorem get_skip {objs : List (Nat × VObj)} {nx : Nat} (hl : ∀ b x, (⟨objs, nx⟩ : Heap).get b = some x → b < nx) {b : Nat} {o y : VObj} (h : hget objs b = some o) : hget ((nx, y) :: objs) b = some o := by
  have := hl b o h
  rw [hget_cons, if_neg (by omega)]
  exact h
theorem clone_call (l : List UInt8) (H : Heap) (hm : l.length ≤ 140737488355328) : VCall Tryd.prog 70 [roB l] H (fun x K => x = roB l ∧ K = H) := by
  refine VCall.frozen (Q := fun v K => Frz K v (roB l)) (by simp [nameless_roB]) ?_ (fun v K h => h)
  refine VCall.go Tryd.func70 rfl ?_
  repeat' (first | with_reducible refine And.intro ?_ ?_ | ((with_reducible intro hc); (try simp only [zA, zB, zC, zD, zE, zF, zG, zH, zI, zJ, zK, zL, zM, zN, zO, zP, zQ, zR, zS, zT, zU, zV, zW] at hc); (first | (exact absurd rfl hc) | (exact absurd trivial hc) | (exfalso; omega) | skip)) | ((conv => whnf); first | with_reducible refine And.intro ?_ ?_ | refine ifB_intro ?_ ?_ | refine xA (by omega) ?_ | ((refine xB ?_); intro kw hk1 hk2) | refine xC (by omega) ?_ | refine xD ?_ | refine xE (by omega) ?_ | refine xF (by omega) ?_ | refine xG ?_ | refine xH ?_ | refine xI (by omega) ?_ | refine xJ (by omega) ?_ | (with_reducible refine stopA ?_) | refine Exists.intro _ (And.intro (by rfl) ?_) | refine GOp.via (by rfl) ?_ | (with_reducible first | refine stopO ?_ | refine stopE ?_ | refine stopD ?_ | refine stopW ?_ | refine stopG ?_ | refine stopC ?_ | refine stopR ?_)))
  · simp at hc
    subst hc
    exact Done'.mk Frz.nil0
  · by_cases h0 : l.length = 0
    · refine GOp'.via (vapp_nil h0) ?_
      repeat' (first | with_reducible refine And.intro ?_ ?_ | ((with_reducible intro hc); (try simp only [zA, zB, zC, zD, zE, zF, zG, zH, zI, zJ, zK, zL, zM, zN, zO, zP, zQ, zR, zS, zT, zU, zV, zW] at hc); (first | (exact absurd rfl hc) | (exact absurd trivial hc) | (exfalso; omega) | skip)) | ((conv => whnf); first | with_reducible refine And.intro ?_ ?_ | refine ifB_intro ?_ ?_ | refine xA (by omega) ?_ | ((refine xB ?_); intro kw hk1 hk2) | refine xC (by omega) ?_ | refine xD ?_ | refine xE (by omega) ?_ | refine xF (by omega) ?_ | refine xG ?_ | refine xH ?_ | refine xI (by omega) ?_ | refine xJ (by omega) ?_ | (with_reducible refine stopA ?_) | refine Exists.intro _ (And.intro (by rfl) ?_) | refine GOp.via (by rfl) ?_ | (with_reducible first | refine stopO ?_ | refine stopE ?_ | refine stopD ?_ | refine stopW ?_ | refine stopG ?_ | refine stopC ?_ | refine stopR ?_)))
      simp at h0
      subst h0
      exact Done'.mk (Frz.sl (vs := []) rfl (by simp) (by simp))
    · refine GOp'.via (vapp_new h0 (by omega) rfl) ?_
      repeat' (first | with_reducible refine And.intro ?_ ?_ | ((with_reducible intro hc); (try simp only [zA, zB, zC, zD, zE, zF, zG, zH, zI, zJ, zK, zL, zM, zN, zO, zP, zQ, zR, zS, zT, zU, zV, zW] at hc); (first | (exact absurd rfl hc) | (exact absurd trivial hc) | (exfalso; omega) | skip)) | ((conv => whnf); first | with_reducible refine And.intro ?_ ?_ | refine ifB_intro ?_ ?_ | refine xA (by omega) ?_ | ((refine xB ?_); intro kw hk1 hk2) | refine xC (by omega) ?_ | refine xD ?_ | refine xE (by omega) ?_ | refine xF (by omega) ?_ | refine xG ?_ | refine xH ?_ | refine xI (by omega) ?_ | refine xJ (by omega) ?_ | (with_reducible refine stopA ?_) | refine Exists.intro _ (And.intro (by rfl) ?_) | refine GOp.via (by rfl) ?_ | (with_reducible first | refine stopO ?_ | refine stopE ?_ | refine stopD ?_ | refine stopW ?_ | refine stopG ?_ | refine stopC ?_ | refine stopR ?_)))
      have hf := Frz.sl (K := ⟨[(1, .cells true (l.map bV)), (0, .cells true [])], 2⟩) (b := 1) (o := 0) (n := l.length) (z := 1) (c := none) (vs := l.map bV) rfl (by simp) (by intro v hv; obtain ⟨b, _, rfl⟩ := List.mem_map.1 hv; exact nameless_bV b)
      rw [List.drop_zero, Nat.mul_one, List.take_of_length_le (by simp)] at hf
      exact Done'.mk hf
theorem clone_own {x : List UInt8} (hx : ¬ x.length = 0) (hm : x.length ≤ 140737488355328) (objs : List (Nat × VObj)) (nx : Nat) : VCall Tryd.prog 70 [roB x] ⟨objs, nx⟩ (fun v K => v = .sl (nx + 1) 0 x.length none 1 ∧ K = ⟨(nx + 1, .cells true (x.map bV)) :: objs, nx + 2⟩) := by
  refine VCall.live fun hl => ?_
  refine VCall.post (Q := fun v K => v = .sl (nx + 1) 0 x.length none 1 ∧ K = ⟨(nx + 1, .cells true (x.map bV)) :: (nx, .cells true []) :: objs, nx + 2⟩) ?_ ?_
  · refine VCall.go Tryd.func70 rfl ?_
    repeat' (first | with_reducible refine And.intro ?_ ?_ | ((with_reducible intro hc); (try simp only [zA, zB, zC, zD, zE, zF, zG, zH, zI, zJ, zK, zL, zM, zN, zO, zP, zQ, zR, zS, zT, zU, zV, zW] at hc); (first | (exact absurd rfl hc) | (exact absurd trivial hc) | (exfalso; omega) | skip)) | ((conv => whnf); first | with_reducible refine And.intro ?_ ?_ | refine ifB_intro ?_ ?_ | refine xA (by omega) ?_ | ((refine xB ?_); intro kw hk1 hk2) | refine xC (by omega) ?_ | refine xD ?_ | refine xE (by omega) ?_ | refine xF (by omega) ?_ | refine xG ?_ | refine xH ?_ | refine xI (by omega) ?_ | refine xJ (by omega) ?_ | (with_reducible refine stopA ?_) | refine Exists.intro _ (And.intro (by rfl) ?_) | refine GOp.via (by rfl) ?_ | (with_reducible first | refine stopO ?_ | refine stopE ?_ | refine stopD ?_ | refine stopW ?_ | refine stopG ?_ | refine stopC ?_ | refine stopR ?_)))
    refine GOp'.via ((vapp_full sty_b (d := .slice 5) Tryd.underlying22 (by intro k h; cases h) (b := nx) (o := 0) (n := 0) (c := 0) (z' := 1) (vs := []) (rw := true) (velems_roB x _) (one_map x) (by simp [Heap.add, Heap.get, hget_cons, vzeros]) (by omega) (by omega) (by simp) (by omega) (by omega)).trans (by rw [Nat.zero_add])) ?_
    repeat' (first | with_reducible refine And.intro ?_ ?_ | ((with_reducible intro hc); (try simp only [zA, zB, zC, zD, zE, zF, zG, zH, zI, zJ, zK, zL, zM, zN, zO, zP, zQ, zR, zS, zT, zU, zV, zW] at hc); (first | (exact absurd rfl hc) | (exact absurd trivial hc) | (exfalso; omega) | skip)) | ((conv => whnf); first | with_reducible refine And.intro ?_ ?_ | refine ifB_intro ?_ ?_ | refine xA (by omega) ?_ | ((refine xB ?_); intro kw hk1 hk2) | refine xC (by omega) ?_ | refine xD ?_ | refine xE (by omega) ?_ | refine xF (by omega) ?_ | refine xG ?_ | refine xH ?_ | refine xI (by omega) ?_ | refine xJ (by omega) ?_ | (with_reducible refine stopA ?_) | refine Exists.intro _ (And.intro (by rfl) ?_) | refine GOp.via (by rfl) ?_ | (with_reducible first | refine stopO ?_ | refine stopE ?_ | refine stopD ?_ | refine stopW ?_ | refine stopG ?_ | refine stopC ?_ | refine stopR ?_)))
    exact Done'.mk ⟨rfl, rfl⟩
  · rintro v K ⟨rfl, rfl⟩
    refine ⟨_, _, ⟨rfl, rfl⟩, fun _ _ _ _ h => h, Nat.le_refl _, fun b o h => ?_⟩
    simp only [Heap.get] at h ⊢
    rw [hget_cons] at h ⊢
    split at h
    · rename_i e; rw [if_pos e]; exact h
    · rename_i e
      rw [if_neg e]
      exact get_skip hl h
theorem clone_own0 (objs : List (Nat × VObj)) (nx : Nat) : VCall Tryd.prog 70 [roB []] ⟨objs, nx⟩ (fun v K => v = .ro 0 [] ∧ K = ⟨objs, nx + 1⟩) := by
  refine VCall.live fun hl => ?_
  refine VCall.post (Q := fun v K => (v = .sc (.slice none 0 0) ∧ K = ⟨objs, nx⟩) ∨ (v = .sl nx 0 0 (some 0) 1 ∧ ∃ y, K = ⟨(nx, y) :: objs, nx + 1⟩)) ?_ ?_
  · refine VCall.go Tryd.func70 rfl ?_
    repeat' (first | with_reducible refine And.intro ?_ ?_ | ((with_reducible intro hc); (try simp only [zA, zB, zC, zD, zE, zF, zG, zH, zI, zJ, zK, zL, zM, zN, zO, zP, zQ, zR, zS, zT, zU, zV, zW] at hc); (first | (exact absurd rfl hc) | (exact absurd trivial hc) | (exfalso; omega) | skip)) | ((conv => whnf); first | with_reducible refine And.intro ?_ ?_ | refine ifB_intro ?_ ?_ | refine xA (by omega) ?_ | ((refine xB ?_); intro kw hk1 hk2) | refine xC (by omega) ?_ | refine xD ?_ | refine xE (by omega) ?_ | refine xF (by omega) ?_ | refine xG ?_ | refine xH ?_ | refine xI (by omega) ?_ | refine xJ (by omega) ?_ | (with_reducible refine stopA ?_) | refine Exists.intro _ (And.intro (by rfl) ?_) | refine GOp.via (by rfl) ?_ | (with_reducible first | refine stopO ?_ | refine stopE ?_ | refine stopD ?_ | refine stopW ?_ | refine stopG ?_ | refine stopC ?_ | refine stopR ?_)))
    · exact Done'.mk (.inl ⟨rfl, rfl⟩)
    · exact Done'.mk (.inr ⟨rfl, _, rfl⟩)
  · rintro v K (⟨rfl, rfl⟩ | ⟨rfl, y, rfl⟩)
    · exact ⟨_, _, ⟨rfl, rfl⟩, fun _ _ _ _ h => weak_nil h, by simp, fun b o h => h⟩
    · exact ⟨_, _, ⟨rfl, rfl⟩, fun _ _ _ _ h => weak_sl0 h, by simp, fun b o h => get_skip hl h⟩
def u8V (x : Int) : VV := .sc (.int .u8 x)
theorem vstore_i8 {H : Heap} {b q i : Nat} {vs : List VV} {x : Int} (hg : H.get b = some (.cells true vs)) (hi : q = i) (hq : i < vs.length) : vstore Tryd.prog 5 (.ptr b q) (.sc (.int .u8 x)) H = some (H.set b (.cells true (vs.set i (u8V x)))) := by
  subst hi
  have hz : vsize Tryd.prog 5 = some 1 := by kernel_rfl
  have h1 : Nat.ble (q + 1) vs.length = true := Nat.ble_eq_true_of_le hq
  simp only [vstore, hg, u8V, cellsOf, hz, List.length_singleton, Nat.beq_refl, h1, Bool.and_self, setRun]
theorem all_u8 (x : List UInt8) : ∀ v ∈ x.map bV, ∃ z, v = u8V z := fun v hv => by
  obtain ⟨b, _, rfl⟩ := List.mem_map.1 hv
  exact ⟨_, rfl⟩
theorem all_set {row : List VV} {j : Nat} {z : Int} (h : ∀ v ∈ row, ∃ z, v = u8V z) : ∀ v ∈ row.set j (u8V z), ∃ z, v = u8V z := fun v hv => by
  rcases List.mem_or_eq_of_mem_set hv with hv | rfl
  · exact h v hv
  · exact ⟨z, rfl⟩
theorem u8_nameless {row : List VV} (h : ∀ v ∈ row, ∃ z, v = u8V z) : ∀ v ∈ row, Nameless v := fun v hv => by
  obtain ⟨z, rfl⟩ := h v hv
  exact nameless_sc _
theorem row_at {row : List VV} {j : Nat} (hj : j < row.length) (h : ∀ v ∈ row, ∃ z, v = u8V z) : ∃ z, row[j]? = some (u8V z) := by
  obtain ⟨z, hz⟩ := h _ (List.getElem_mem hj)
  exact ⟨z, by rw [List.getElem?_eq_getElem hj, hz]⟩
theorem vbytes_whole (x : List UInt8) : vbytes (((x.map bV).drop 0).take x.length) = some x := by
  rw [List.drop_zero, List.take_of_length_le (by simp)]
  exact vbytes_map x
theorem RenV.slE {R : List (Nat × Nat)} {t b b' o n n' z : Nat} {c : Option Nat} (h : (b, b') ∈ R) (e : n = n') : RenV R t (.sl b o n c z) (.sl b' o n' c z) := by subst e; exact .sl h
theorem RenL.eq {R : List (Nat × Nat)} {t : Nat} {vs us : List VV} (e : vs = us) (h : ∀ v ∈ us, Nameless v) : RenL R t vs us := by subst e; exact .of h
theorem Frz.eq {K : Heap} {v u : VV} (e : v = u) (h : Nameless u) : Frz K v u := by subst e; exact .of h
theorem vagg_str : vagg Tryd.prog 9 = some false := by kernel_rfl
theorem list_at {α : Type} {l : List α} {i : Nat} (h : i < l.length) : ∃ c, l[i]? = some c := ⟨l[i], by simp⟩
theorem drop_eq {α : Type} [BEq α] [LawfulBEq α] {a b : List α} {i : Nat} {x y : α} (ha : a[i]? = some x) (hb : b[i]? = some y) : (a.drop i == b.drop i) = ((x == y) && (a.drop (i + 1) == b.drop (i + 1))) := by
  obtain ⟨h1, e1⟩ := List.getElem?_eq_some_iff.1 ha
  obtain ⟨h2, e2⟩ := List.getElem?_eq_some_iff.1 hb
  rw [List.drop_eq_getElem_cons h1, List.drop_eq_getElem_cons h2, e1, e2]
  rfl
theorem scI_eq {k : IntKind} {x y : Int} (h : x = y) : VV.sc (.int k x) = VV.sc (.int k y) := by subst h; rfl
theorem frz_gsB {K : Heap} {b : Nat} {d : List UInt8} (hg : K.get b = some (.opt (d.map bV))) : Frz K (.gs b d.length 1) (roB d) := Frz.gs hg (by simp) (nameless_map nameless_bV d)
/-- s[lo:hi] of rows that are named. -/
theorem vslice_n {t : TypeId} {e : TypeId} {z : Nat} {b q n l h : Nat} {lo hi : Option VV} (hu : (Tryd.prog).underlying t = some (.slice e)) (hz : vsize Tryd.prog e = some z) (hb : vbounds n n lo hi none = some (l, h, none)) (hl : l < h) : vslice Tryd.prog t (.sl b q n none z) lo hi none = some (.sl b (q + l * z) (h - l) none z) := by
  simp only [vslice, hu, hz, Option.getD_none, hb, if_true]
  by_cases h0 : l = 0
  · subst h0
    simp
  · rw [if_neg h0, if_neg (by omega)]
theorem vslice_e {t : TypeId} {e : TypeId} {z : Nat} {b q n l : Nat} {lo hi : Option VV} (hu : (Tryd.prog).underlying t = some (.slice e)) (hz : vsize Tryd.prog e = some z) (hb : vbounds n n lo hi none = some (l, l, none)) (hl : 0 < l) : vslice Tryd.prog t (.sl b q n none z) lo hi none = some (.ro 0 []) := by
  simp only [vslice, hu, hz, Option.getD_none, hb, if_true]
  rw [if_neg (by omega)]
theorem vb_lh {n : Nat} {k1 k2 : IntKind} {i j : Int} (h : 0 ≤ i ∧ i ≤ j ∧ j ≤ (n : Int)) : vbounds n n (some (.sc (.int k1 i))) (some (.sc (.int k2 j))) none = some (i.toNat, j.toNat, none) := by
  have c1 : 0 ≤ j ∧ j ≤ (n : Int) := ⟨by omega, h.2.2⟩
  have c2 : 0 ≤ i ∧ i ≤ ((j.toNat : Nat) : Int) := ⟨h.1, by omega⟩
  simp only [vbounds, vbound, if_pos c1, if_pos c2]
theorem vb_l {n : Nat} {k1 : IntKind} {i : Int} (h : 0 ≤ i ∧ i ≤ (n : Int)) : vbounds n n (some (.sc (.int k1 i))) none none = some (i.toNat, n, none) := by
  simp only [vbounds, vbound, if_pos h]
theorem GOp'.slN {o : Oper} {ts : List VV} {H : Heap} {K : VV → Heap → Prop} {t e : TypeId} {x : Operand} {lo hi : Option Operand} {b q n z l h : Nat} (ho : o.op = .slice t x lo hi none) (hu : (Tryd.prog).underlying t = some (.slice e)) (hz : vsize Tryd.prog e = some z) (hx : veval ts x = .sl b q n none z) (hb : vbounds n n (lo.map (veval ts)) (hi.map (veval ts)) none = some (l, h, none)) (hl : l < h) (k : K (.sl b (q + l * z) (h - l) none z) H) : GOp' Tryd.prog o ts H K := by
  refine GOp'.via (v := .sl b (q + l * z) (h - l) none z) (H' := H) ?_ k
  simp only [vop, ho, hx, Option.map_none, vslice_n hu hz hb hl, orE, keepH]
theorem GOp'.slE {o : Oper} {ts : List VV} {H : Heap} {K : VV → Heap → Prop} {t e : TypeId} {x : Operand} {lo hi : Option Operand} {b q n z l : Nat} (ho : o.op = .slice t x lo hi none) (hu : (Tryd.prog).underlying t = some (.slice e)) (hz : vsize Tryd.prog e = some z) (hx : veval ts x = .sl b q n none z) (hb : vbounds n n (lo.map (veval ts)) (hi.map (veval ts)) none = some (l, l, none)) (hl : 0 < l) (k : K (.ro 0 []) H) : GOp' Tryd.prog o ts H K := by
  refine GOp'.via (v := .ro 0 []) (H' := H) ?_ k
  simp only [vop, ho, hx, Option.map_none, vslice_e hu hz hb hl, orE, keepH]
theorem VCall.arg21 {P : Program} {f : FuncId} {v u a : VV} {H : Heap} {Q : VV → Heap → Prop} (e : v = u) (h : VCall P f [u, a] H Q) : VCall P f [v, a] H Q := e ▸ h
inductive FrxL (K : Heap) : List VV → List VV → Prop
  | nil : FrxL K [] []
  | cons {v u : VV} {r s : List VV} (h : Frx K v u) (t : FrxL K r s) : FrxL K (v :: r) (u :: s)
theorem Frx.tp {K : Heap} {vs us : List VV} (h : FrxL K vs us) : Frx K (.tp vs) (.tp us) := fun B w Z ρ ρ2 y hr hv => by
  cases hv with
  | @tp _ cs h1 r1 =>
    obtain ⟨cs⟩ := cs
    simp only at h1 r1
    have key : ∀ {vs us : List VV} {cs : List Value}, FrxL K vs us → Pw (VRel w Z ρ) vs cs → Pw (VRel w (fun k => B.heap.size ≤ k ∧ k < w.heap.size) ρ2) us cs := by
      intro vs us cs h
      induction h generalizing cs with
      | nil => intro hp; exact ⟨hp.1, fun i u c hu => by simp at hu⟩
      | @cons v u r s hvu _ ih =>
        intro hp
        match cs, hp with
        | c :: ct, hp =>
          have h0 := hp.2 0 v c rfl rfl
          have ht : Pw (VRel w Z ρ) r ct := ⟨by have := hp.1; simpa using this, fun i u c hu hc => hp.2 (i + 1) u c (by simpa using hu) (by simpa using hc)⟩
          exact Pw.cons (hvu B w Z ρ ρ2 c hr h0) (ih ht)
    have := key h ⟨h1, r1⟩
    exact .tp this.1 this.2
theorem Frx.nil0 {K : Heap} {c : Nat} : Frx K (.sc (.slice none 0 c)) (.ro 0 []) := fun B w Z ρ ρ2 y _ hv => by
  cases hv
  exact .ro0
theorem VCall.bytes {P : Program} {f : FuncId} (hm : P.follows .mixedOrders = true) (n : Nat) (g : UInt8 → Bool) (h : ((List.range 256).all fun k => isV (vcallW P (vcode P n) f [.sc (.int .u8 (k : Int))] ⟨[], 0⟩) (.sc (.bool (g (UInt8.ofNat k))))) = true) (b : UInt8) (H : Heap) : VCall P f [bV b] H (fun x K => x = booV (g b) ∧ K = H) := by
  have hb := List.all_eq_true.1 h b.toNat (List.mem_range.2 (u8_lt b))
  rw [UInt8.ofNat_toNat] at hb
  unfold isV at hb
  split at hb
  · rename_i v K hr
    have := veq_eq hb
    subst this
    refine (VCall.apart (Q := fun x K' => x = .sc (.bool (g b)) ∧ K' = K) (by simp [nameless_sc, bV]) (VCall.run hm n hr) (fun v K e => e.1 ▸ exact_sc _)).mono ?_
    rintro v K' ⟨⟨_, e, _⟩, e2⟩
    exact ⟨e, e2⟩
  · simp at hb
/-- So many rounds of a loop, at most. -/
structure GRnd (P : Program) (r : Option Nat) (c : Code) (Q : Exit → VSt → Prop) (n : Nat) (s : VSt) : Prop where
  out : VRounds P r c Q n s
structure GRnd' (P : Program) (r : Option Nat) (c : Code) (Q : Exit → VSt → Prop) (n : Nat) (s : VSt) : Prop where
  out : GRnd P r c Q n s
theorem stopG {P : Program} {r : Option Nat} {c : Code} {Q : Exit → VSt → Prop} {s : VSt} {n : Nat} (h : GRnd' P r c Q n s) : GRnd P r c Q n s := h.out
theorem GWP.step {P : Program} {r : Option Nat} {c : Code} {Q : Exit → VSt → Prop} {s : VSt} {n : Nat} (h : wcode P r c (thenQ (fun s' => GRnd P r c Q n s') Q) s) : GRnd P r c Q (n + 1) s := ⟨(wcode_sound h).mono fun e s' q => by
  cases e with
  | normal => exact q.out
  | _ => exact q⟩
theorem GRnd'.step {P : Program} {r : Option Nat} {c : Code} {Q : Exit → VSt → Prop} {s : VSt} {n : Nat} (h : wcode P r c (thenQ (fun s' => GRnd P r c Q n s') Q) s) : GRnd' P r c Q (n + 1) s := ⟨GWP.step h⟩
theorem GWP.rounds {P : Program} {r : Option Nat} {c : Code} {Q : Exit → VSt → Prop} {s : VSt} (n : Nat) (h : GRnd P r c Q n s) : GWP P r (.loop c) Q s := ⟨VWP.rounds n h.out⟩
/-- A call that is told by a contract of the kit: plain values in, one plain value out. -/
theorem VCall.ofBelow {P : Program} {f : FuncId} {vals : List Value} {y : Value} {H : Heap} (h : ∀ w, Tabs w → Calls P f vals.toArray w (fun e w' => e = .returned y ∧ Below w.heap.size w w')) : VCall P f (vals.map .sc) H (fun x K => x = ofV y ∧ K = H) := fun B M Z ρ w ra h1 h2 => by
  have key : ∀ {l : List Value} {cs : List Value}, Pw (VRel w Z ρ) (l.map .sc) cs → cs = l := by
    intro l
    induction l with
    | nil => intro cs hp; exact List.eq_nil_of_length_eq_zero (by simpa using hp.1.symm)
    | cons v r ih =>
      intro cs hp
      match cs, hp with
      | c :: ct, hp =>
        have h0 := hp.2 0 (.sc v) c rfl rfl
        have ht : Pw (VRel w Z ρ) (r.map .sc) ct := ⟨by have := hp.1; simpa using this, fun i u c hu hc => hp.2 (i + 1) u c (by simpa using hu) (by simpa using hc)⟩
        rw [sc_inv h0, ih ht]
      | [], hp => have := hp.1; simp at this
  have hra : ra = vals.toArray := by
    have := key h2
    cases ra
    simp only at this
    rw [this]
  subst hra
  refine (h w h1.tabs).mono ?_
  rintro e w' ⟨rfl, hb⟩
  obtain ⟨e2, r2⟩ := h1.step (Z' := Z) hb.os hb.tape hb.output hb.size (fun k hk => hb.block k hk) (fun _ h => h) (fun _ h => .inl h)
  exact ⟨y, ofV y, H, Z, ρ, rfl, ⟨rfl, rfl⟩, e2, r2, ofV_rel y⟩
theorem GQuo.t {a b : Int} {K : Int → Prop} (h : -9223372036854775807 ≤ a ∧ a ≤ 9223372036854775807) (k : K (a.tdiv b)) : GQuo .i64 a b K := ⟨by
  have h1 : (a.tdiv b).natAbs ≤ a.natAbs := by rw [Int.natAbs_tdiv]; exact Nat.div_le_self _ _
  rw [wrap_i64_id (by omega) (by omega)]
  exact k⟩
/-- Equality of values of more than one cell. -/
theorem GOp'.eqAg {P : Program} {o : Oper} {ts : List VV} {H : Heap} {K : VV → Heap → Prop} {op : BinOp} {t : TypeId} {x y : Operand} {p : TypeId} {us vs : List VV} {xs ys : List Value} {b : Bool} (ho : o.op = .binOp op t x y p) (hop : op = .eql ∨ op = .neq) (hx : veval ts x = .ag us) (hy : veval ts y = .ag vs) (hxs : plainL us = some xs) (hys : plainL vs = some ys)
    (hg : P.eqGuardType P.depth t = false) (he : ∀ w, (Op.equal t (.agg xs.toArray) (.agg ys.toArray)).run P w = .ok b w) (k : K (.sc (.bool (if op = .eql then b else !b))) H) : GOp' P o ts H K := ⟨⟨by
  refine VOne.exec' k (fun c e => by simp [ho] at e) fun av w Z ρ hr => ⟨_, ?_, .sc rfl⟩
  have e1 : av x = .agg xs.toArray := plain_eq (v := .ag us) (by simp only [plain, hxs]) (hx ▸ hr x)
  have e2 : av y = .agg ys.toArray := plain_eq (v := .ag vs) (by simp only [plain, hys]) (hy ▸ hr y)
  rcases hop with rfl | rfl
  · simp [execOp, ho, e1, e2, eqGuard, binOp, he, hg]
  · simp [execOp, ho, e1, e2, eqGuard, binOp, he, hg]⟩⟩
/-- Names nothing, at a glance. -/
def scB : VV → Bool
  | .sc _ => true
  | .junk => true
  | .tp [] => true
  | _ => false
theorem scB_nameless {v : VV} (h : scB v = true) : Nameless v := by
  unfold scB at h
  split at h
  · exact nameless_sc _
  · exact fun w Z ρ ρ' y _ => .junk
  · exact nameless_tp (by simp)
  · simp at h
theorem VOne.frozen {P : Program} {o : Oper} {ts : List VV} {H H' : Heap} {v u : VV} (ha : ∀ v ∈ ts, Nameless v) (h : vop P o ts ⟨[], 0⟩ = some (v, H')) (hf : Frz H' v u) : VOne P o ts H (fun x K => x = u ∧ K = H) := fun B M Z ρ a w rr KK QE h1 h2 h3 => by
  have hp : Pw (VRel w Z (fun _ => none)) ts a.tmps.toList := ⟨h2.1, fun i u c hu hc => ha u (List.mem_of_getElem? hu) _ _ _ _ _ (h2.2 i u c hu hc)⟩
  refine VOne.plain h w (fun _ => False) Z (fun _ => none) a w rr KK QE (rel_apart h1) hp ?_
  rintro v' x K' Z' ρ' w' ⟨rfl, rfl⟩ e1 r1 v1
  obtain ⟨e2, r2⟩ := h1.step (Z' := fun k => Z k ∨ (w.heap.size ≤ k ∧ k < w'.heap.size)) r1.os r1.tape r1.output r1.size (fun k hk => r1.frame k hk id) (fun _ h => .inl h) (fun _ h => h)
  refine h3 v' u H _ ρ w' ⟨rfl, rfl⟩ e2 r2 ?_
  refine (hf w w' Z' ρ' ρ v' r1 v1).zmono fun k hk => ?_
  rcases hk with hk | hk
  · rcases e1.znew k hk with h | h
    · exact .inl h
    · exact .inr ⟨h, r1.zlt k hk⟩
  · exact .inr hk
/-- A slice that is built in a drawn region: rows that nobody writes. -/
theorem GOp.drawn {P : Program} {o : Oper} {ts : List VV} {H : Heap} {n z : Nat} {c : Option Nat} {vs : List VV} (ha : ts.all scB = true) (h : vop P o ts ⟨[], 0⟩ = some (.sl 0 0 n c z, ⟨[(0, .cells true vs)], 1⟩)) (hl : n * z ≤ vs.length) (hn : vs.all scB = true) :
    GOp P o ts H (fun x K' => Is x (.ro n (vs.take (n * z))) K' H) := ⟨by
  refine (VOne.frozen (u := .ro n (vs.take (n * z))) (fun v hv => scB_nameless (List.all_eq_true.1 ha v hv)) h ?_).mono fun x K' e => ⟨e.1, e.2⟩
  have := Frz.sl (K := ⟨[(0, .cells true vs)], 1⟩) (b := 0) (o := 0) (n := n) (z := z) (c := c) rfl (by omega) (fun v hv => scB_nameless (List.all_eq_true.1 hn v hv))
  rwa [List.drop_zero] at this⟩
/-- Only so much is kept of a state: these temporaries, these blocks. -/
theorem GWP'.keep {P : Program} {r : Option Nat} {c : Code} {Q : Exit → VSt → Prop} {s : VSt} (l : List (Nat × VV)) (n : Nat) (O : List (Nat × VObj)) (nx : Nat) (hn : s.tmps.length = n) (hf : FitT l s.tmps) (hnx : s.heap.next = nx) (hg : Gets s.heap O) (h : forceT (frameT l n 0) fun ts => GWP P r c Q ⟨ts, ⟨O, nx⟩, s.marks⟩) : GWP' P r c Q s := ⟨⟨by
  rw [forceT_eq] at h
  refine VWP.weaken (s1 := ⟨frameT l n 0, ⟨O, nx⟩, s.marks⟩) rfl hnx.symm (fun b x h => (hg.get h).1) (fun w Z ρ cs hp => ⟨?_, ?_⟩) h.out
  · rw [frameT_length, ← hn]; exact hp.1
  · intro i u x hu hx
    simp only [frameT_get] at hu
    split at hu
    · simp at hu
      rcases lookT_cases l s.tmps i hf with e | e
      · rw [← hu, e]; exact .junk
      · exact hp.2 i u x (by rw [e, hu]) hx
    · simp at hu⟩⟩
end Go.Proofs.YtmmjgbdihgdekaaDoor

/- The reckoner, where some calls are known by contracts. -/
namespace Go.Proofs.YtmmjgbdihgdekaaDoor
open Go Go.RowKit
set_option linter.unusedSimpArgs false
set_option linter.unusedVariables false
/-- States are looked at as they are made, so that nothing is put off. -/
def setF {β : Type} : List VV → Nat → VV → (List VV → β) → β
  | [], _, _, K => K []
  | _ :: r, 0, v, K => K (v :: r)
  | a :: r, n + 1, v, K => setF r n v fun r' => K (a :: r')
theorem setF_eq {β : Type} : ∀ (l : List VV) (n : Nat) (v : VV) (K : List VV → β), setF l n v K = K (l.set n v)
  | [], _, _, _ => rfl
  | _ :: _, 0, _, _ => rfl
  | a :: r, n + 1, v, K => by simp only [setF, setF_eq r n v, List.set_cons_succ]
def forceB {β : Type} (v : VV) (K : VV → β) : β := match v with
  | .sc (.int k n) => K (.sc (.int k n))
  | .sc (.bool true) => K (.sc (.bool true))
  | .sc (.bool false) => K (.sc (.bool false))
  | .sc (.string s) => K (.sc (.string s))
  | .sc x => K (.sc x)
  | .ptr b q => K (.ptr b q)
  | .sl b q n c z => K (.sl b q n c z)
  | .gs b n z => K (.gs b n z)
  | .ro n vs => K (.ro n vs)
  | .rp vs q => K (.rp vs q)
  | .fn f a b => K (.fn f a b)
  | .yl l => K (.yl l)
  | .ag vs => K (.ag vs)
  | .tp vs => K (.tp vs)
  | .ifc t x => K (.ifc t x)
  | .junk => K .junk
theorem forceB_eq {β : Type} (v : VV) (K : VV → β) : forceB v K = K v := by
  unfold forceB
  split <;> rfl
def forceO {β : Type} : List (Nat × VObj) → (List (Nat × VObj) → β) → β
  | [], K => K []
  | (k, .cells rw vs) :: r, K => forceO r fun r' => K ((k, .cells rw vs) :: r')
  | (k, x) :: r, K => forceO r fun r' => K ((k, x) :: r')
theorem forceO_eq {β : Type} : ∀ (l : List (Nat × VObj)) (K : List (Nat × VObj) → β), forceO l K = K l
  | [], _ => rfl
  | (k, x) :: r, K => by
    cases x <;> simp only [forceO, forceO_eq r]
def putF {β : Type} (ts : List VV) (dst : Option Tmp) (v : VV) (K : List VV → β) : β := match dst with
  | some d => forceB v fun v' => setF ts d v' K
  | none => K ts
theorem putF_eq {β : Type} (s : VSt) (dst : Option Tmp) (v : VV) (H : Heap) (K : VSt → β) : putF s.tmps dst v (fun ts => K ⟨ts, H, s.marks⟩) = K (s.put dst v H) := by
  cases dst with
  | none => rfl
  | some d => simp only [putF, forceB_eq, setF_eq, VSt.put]
/-- Numbers, the quick way. -/
def fwrap (k : IntKind) (x : Int) : Int := match k with
  | .u32 => x % 4294967296
  | .u64 => x % 18446744073709551616
  | .u8 => x % 256
  | k => k.wrap x
theorem fwrap_eq (k : IntKind) (x : Int) : fwrap k x = k.wrap x := by
  cases k <;> first | rfl | exact (wrap_u32 x).symm | exact (wrap_u64 x).symm | exact (wrap_u8 x).symm
def fbit (op : BinOp) (k : IntKind) (a b : Int) : Int := match k, a, b with
  | .u32, .ofNat a, .ofNat b => match op with
    | .and => .ofNat (Nat.land a b % 4294967296)
    | .or => .ofNat (Nat.lor a b % 4294967296)
    | .xor => .ofNat (Nat.xor a b % 4294967296)
    | _ => bitZ0 op .u32 (.ofNat a) (.ofNat b)
  | .u64, .ofNat a, .ofNat b => match op with
    | .and => .ofNat (Nat.land a b % 18446744073709551616)
    | .or => .ofNat (Nat.lor a b % 18446744073709551616)
    | .xor => .ofNat (Nat.xor a b % 18446744073709551616)
    | _ => bitZ0 op .u64 (.ofNat a) (.ofNat b)
  | k, a, b => bitZ0 op k a b
theorem ofInt_nat' (n a : Nat) : BitVec.ofInt n (Int.ofNat a) = BitVec.ofNat n a := by
  apply BitVec.eq_of_toNat_eq
  simp [BitVec.toNat_ofInt, BitVec.toNat_ofNat]
theorem fbit_eq (op : BinOp) (k : IntKind) (a b : Int) : fbit op k a b = bitZ op k a b := by
  rw [bitZ_def]
  unfold fbit
  split
  · rename_i a b
    have e : IntKind.u32.bits = 32 := rfl
    split
    · show _ = IntKind.u32.wrap _
      rw [e, ofInt_nat', ofInt_nat', BitVec.toNat_and, BitVec.toNat_ofNat, BitVec.toNat_ofNat, ← Nat.and_mod_two_pow, wrap_u32]
      show (((a &&& b) % 4294967296 : Nat) : Int) = (((a &&& b) % 2 ^ 32 : Nat) : Int) % 4294967296
      omega
    · show _ = IntKind.u32.wrap _
      rw [e, ofInt_nat', ofInt_nat', BitVec.toNat_or, BitVec.toNat_ofNat, BitVec.toNat_ofNat, ← Nat.or_mod_two_pow, wrap_u32]
      show (((a ||| b) % 4294967296 : Nat) : Int) = (((a ||| b) % 2 ^ 32 : Nat) : Int) % 4294967296
      omega
    · show _ = IntKind.u32.wrap _
      rw [e, ofInt_nat', ofInt_nat', BitVec.toNat_xor, BitVec.toNat_ofNat, BitVec.toNat_ofNat, ← Nat.xor_mod_two_pow, wrap_u32]
      show (((a ^^^ b) % 4294967296 : Nat) : Int) = (((a ^^^ b) % 2 ^ 32 : Nat) : Int) % 4294967296
      omega
    · rfl
  · rename_i a b
    have e : IntKind.u64.bits = 64 := rfl
    split
    · show _ = IntKind.u64.wrap _
      rw [e, ofInt_nat', ofInt_nat', BitVec.toNat_and, BitVec.toNat_ofNat, BitVec.toNat_ofNat, ← Nat.and_mod_two_pow, wrap_u64]
      show (((a &&& b) % 18446744073709551616 : Nat) : Int) = (((a &&& b) % 2 ^ 64 : Nat) : Int) % 18446744073709551616
      omega
    · show _ = IntKind.u64.wrap _
      rw [e, ofInt_nat', ofInt_nat', BitVec.toNat_or, BitVec.toNat_ofNat, BitVec.toNat_ofNat, ← Nat.or_mod_two_pow, wrap_u64]
      show (((a ||| b) % 18446744073709551616 : Nat) : Int) = (((a ||| b) % 2 ^ 64 : Nat) : Int) % 18446744073709551616
      omega
    · show _ = IntKind.u64.wrap _
      rw [e, ofInt_nat', ofInt_nat', BitVec.toNat_xor, BitVec.toNat_ofNat, BitVec.toNat_ofNat, ← Nat.xor_mod_two_pow, wrap_u64]
      show (((a ^^^ b) % 18446744073709551616 : Nat) : Int) = (((a ^^^ b) % 2 ^ 64 : Nat) : Int) % 18446744073709551616
      omega
    · rfl
  · rfl
def fbin (op : BinOp) (k k' : IntKind) (a b : Int) : Option Value := match op with
  | .shl => match leZ 0 b with
    | true => some (.int k (fwrap k (a * 2 ^ (min b.toNat k.bits))))
    | false => none
  | .shr => match leZ 0 b with
    | true => some (.int k (a.fdiv (2 ^ (min b.toNat k.bits))))
    | false => none
  | _ => match kindB k k' with
    | true => match op with
      | .add => some (.int k (fwrap k (a + b)))
      | .sub => some (.int k (fwrap k (a - b)))
      | .mul => some (.int k (fwrap k (a * b)))
      | .eql => some (.bool (eqZ a b))
      | .neq => some (.bool (!(eqZ a b)))
      | .lss => some (.bool (ltZ a b))
      | .leq => some (.bool (leZ a b))
      | .gtr => some (.bool (ltZ b a))
      | .geq => some (.bool (leZ b a))
      | .and => some (.int k (fbit .and k a b))
      | .or => some (.int k (fbit .or k a b))
      | .xor => some (.int k (fbit .xor k a b))
      | _ => none
    | false => none
/-- What is quick. -/
def vfast (o : Oper) (ts : List VV) : Option VV := match o.op with
  | .binOp op t x y _ => match veval ts x, veval ts y with
    | .sc (.int k a), .sc (.int k' b) => match fbin op k k' a b with
      | some v => some (.sc v)
      | none => none
    | _, _ => none
  | _ => none
theorem vfast_sound {P : Program} {o : Oper} {ts : List VV} {H : Heap} {v : VV} (h : vfast o ts = some v) : VOne P o ts H (fun x K => x = v ∧ K = H) := by
  refine wone_sound ?_
  unfold vfast at h
  split at h
  · rename_i op t x y p ho
    split at h
    · rename_i k a k' b hx hy
      split at h
      · rename_i u hu
        injection h with h
        subst h
        unfold wone
        rw [ho]
        simp only [hx, hy]
        unfold fbin at hu
        split at hu
        · split at hu
          · rename_i hb
            injection hu with hu
            subst hu
            rw [leZ_eq] at hb
            refine ⟨by simpa using hb, ?_⟩
            rw [shlZ_def, fwrap_eq]; exact ⟨rfl, trivial⟩
          · cases hu
        · split at hu
          · rename_i hb
            injection hu with hu
            subst hu
            rw [leZ_eq] at hb
            refine ⟨by simpa using hb, ?_⟩
            rw [shrZ_def]; exact ⟨rfl, trivial⟩
          · cases hu
        · rename_i h1 h2
          split at hu
          · rename_i hk
            split at hu
            · injection hu with hu; subst hu
              simp only [wshift, hk, wbin]
              exact .wrap (by rw [fwrap_eq]; exact ⟨rfl, trivial⟩)
            · injection hu with hu; subst hu
              simp only [wshift, hk, wbin]
              exact .wrap (by rw [fwrap_eq]; exact ⟨rfl, trivial⟩)
            · injection hu with hu; subst hu
              simp only [wshift, hk, wbin]
              exact .wrap (by rw [fwrap_eq]; exact ⟨rfl, trivial⟩)
            all_goals first
              | (injection hu with hu; subst hu; simp [wshift, hk, wbin, fbit_eq]; done)
              | (cases hu; done)
          · cases hu
      · cases h
    · cases h
  · cases h
def vseqF (P : Program) (call round : CallF) (ops : Array Oper) : List Oper → VSt → Option VSt
  | [], s => some s
  | o :: r, s => match vwanted ops o s.tmps with
    | none => none
    | some false => putF s.tmps o.dst (.tp []) fun ts => vseqF P call round ops r ⟨ts, s.heap, s.marks⟩
    | some true => match vfast o s.tmps with
      | some v => putF s.tmps o.dst v fun ts => vseqF P call round ops r ⟨ts, s.heap, s.marks⟩
      | none => match vevent P call round o s.tmps s.heap with
        | some (v, ⟨O, nx⟩) => putF s.tmps o.dst v fun ts => forceO O fun O' => vseqF P call round ops r ⟨ts, ⟨O', nx⟩, s.marks⟩
        | none => none
theorem vseqF_sound {P : Program} {call round : CallF} (hc : CallOK P call) (hr : RoundOK P round) {ops : Array Oper} : ∀ (l : List Oper) (k : Nat) {s s' : VSt}, ops.toList.drop k = l → vseqF P call round ops l s = some s' → VOps P ops ((List.range ops.size).drop k) (fun t => t = s') s
  | [], k, s, s', hk, h => by
    simp [vseqF] at h
    subst h
    have : ops.size ≤ k := by have := congrArg List.length hk; simp at this; omega
    rw [List.drop_eq_nil_of_le (by simpa using this)]
    exact VOps.nil rfl
  | o :: r, k, s, s', hk, h => by
    have hok : ops.toList[k]? = some o := by
      have := congrArg (fun l => l[0]?) hk
      simpa using this
    have hlt : k < ops.size := by have := (List.getElem?_eq_some_iff.1 hok).1; simpa using this
    have hr2 : ops.toList.drop (k + 1) = r := by rw [← List.drop_drop, hk]; rfl
    have hcons : (List.range ops.size).drop k = k :: (List.range ops.size).drop (k + 1) := by
      rw [List.drop_eq_getElem_cons (by simpa using hlt)]
      simp
    rw [hcons]
    simp only [vseqF] at h
    split at h
    · simp at h
    · rename_i hw
      rw [putF_eq s o.dst (.tp []) s.heap (fun s' => vseqF P call round ops r s')] at h
      exact VOps.pass (by simpa using hok) hw (vseqF_sound hc hr r (k + 1) hr2 h)
    · rename_i hw
      split at h
      · rename_i v hv
        rw [putF_eq s o.dst v s.heap (fun s' => vseqF P call round ops r s')] at h
        refine VOps.step (by simpa using hok) hw ((vfast_sound hv).mono ?_)
        rintro x K ⟨rfl, rfl⟩
        exact vseqF_sound hc hr r (k + 1) hr2 h
      · split at h
        · rename_i v O nx hv
          simp only [forceO_eq] at h
          rw [putF_eq s o.dst v ⟨O, nx⟩ (fun s' => vseqF P call round ops r s')] at h
          refine VOps.step (by simpa using hok) hw ((vevent_sound hc hr hv).mono ?_)
          rintro x K ⟨rfl, rfl⟩
          exact vseqF_sound hc hr r (k + 1) hr2 h
        · simp at h
def vcallO (orc : CallF) (P : Program) (ev : CodeF) : CallF := fun f args H => match orc f args H with
  | some r => some r
  | none => vcallW P ev f args H
def vcodeO (orc : CallF) (P : Program) : Nat → CodeF
  | 0, _, _, _ => none
  | n + 1, r, c, s => match c with
    | .skip => some (.normal, s)
    | .label _ => some (.normal, s)
    | .region _ ops false => match vseqF P (vcallO orc P (vcodeO orc P n)) (vroundW P (vcodeO orc P n)) ops ops.toList s with
      | some s' => some (.normal, s')
      | none => none
    | .region _ ops true => match vdraw P (vcallO orc P (vcodeO orc P n)) (vroundW P (vcodeO orc P n)) ops s with
      | some s' => some (.normal, s')
      | none => none
    | .seq x y => match vcodeO orc P n r x s with
      | some (.normal, s') => vcodeO orc P n r y s'
      | z => z
    | .cond c x y => match veval s.tmps c with
      | .sc (.bool true) => vcodeO orc P n r x s
      | .sc (.bool false) => vcodeO orc P n r y s
      | _ => none
    | .block id c => match vcodeO orc P n r c s with
      | some (.exit j, s') => match Nat.beq j id with
        | true => some (.normal, s')
        | false => some (.exit j, s')
      | z => z
    | .loop c => vloop (vcodeO orc P n r c) n s
    | .exit i => some (.exit i, s)
    | .ret => some (.ret, s)
    | .rangeFunc g ps asg bd => vrange P (vcallO orc P (vcodeO orc P n)) r g ps asg bd s
    | _ => none

section
variable {P : Program} {ev : CodeF} {orc : CallF}
theorem vcallO_ok (ho : CallOK P orc) (h : CodeOK P ev) : CallOK P (vcallO orc P ev) := by
  intro f args H v H' hc
  unfold vcallO at hc
  split at hc
  · rename_i r hr
    injection hc with hc
    subst hc
    exact ho _ _ _ _ _ hr
  · exact vcallW_ok h _ _ _ _ _ hc
theorem vcodeO_ok (ho : CallOK P orc) (hm : P.follows .mixedOrders = true) : ∀ n, CodeOK P (vcodeO orc P n)
  | 0 => fun r c s e s' h => by simp [vcodeO] at h
  | n + 1 => by
    have ih := vcodeO_ok ho hm n
    have hc := vcallO_ok ho ih
    have hr := vroundW_ok ih
    intro r c s e s' h
    cases c with
    | skip => simp [vcodeO] at h; obtain ⟨rfl, rfl⟩ := h; exact VWP.skip ⟨rfl, rfl⟩
    | label l => simp [vcodeO] at h; obtain ⟨rfl, rfl⟩ := h; exact VWP.label ⟨rfl, rfl⟩
    | region id ops draw =>
      cases draw with
      | false =>
        simp only [vcodeO] at h
        split at h
        · rename_i s1 h1
          simp at h
          obtain ⟨rfl, rfl⟩ := h
          have := vseqF_sound hc hr ops.toList 0 rfl h1
          exact VWP.region (this.mono fun t ht => ⟨rfl, ht⟩)
        · simp at h
      | true =>
        simp only [vcodeO] at h
        split at h
        · rename_i s1 h1
          simp at h
          obtain ⟨rfl, rfl⟩ := h
          exact vdraw_sound hm hc hr h1
        · simp at h
    | seq x y =>
      simp only [vcodeO] at h
      split at h
      · rename_i s1 h1
        refine VWP.seq ((ih _ _ _ _ _ h1).mono ?_)
        rintro e' t ⟨rfl, rfl⟩
        exact ih _ _ _ _ _ h
      · rename_i hne
        refine VWP.seq ((ih _ _ _ _ _ h).mono ?_)
        rintro e' t ⟨rfl, rfl⟩
        cases e' with
        | normal => exact absurd h (hne _)
        | _ => exact ⟨rfl, rfl⟩
    | cond c x y =>
      simp only [vcodeO] at h
      split at h
      · rename_i hv
        exact VWP.cond hv (ih _ _ _ _ _ h)
      · rename_i hv
        exact VWP.cond hv (ih _ _ _ _ _ h)
      · simp at h
    | block id c =>
      simp only [vcodeO] at h
      split at h
      · rename_i j s1 h1
        refine VWP.block ((ih _ _ _ _ _ h1).mono ?_)
        rintro e' t ⟨rfl, rfl⟩
        simp only [blockQ]
        split at h
        · rename_i hj
          simp at h
          obtain ⟨rfl, rfl⟩ := h
          rw [if_pos (Nat.eq_of_beq_eq_true hj)]
          exact ⟨rfl, rfl⟩
        · rename_i hj
          simp at h
          obtain ⟨rfl, rfl⟩ := h
          rw [if_neg (fun e => by subst e; rw [Nat.beq_refl] at hj; cases hj)]
          exact ⟨rfl, rfl⟩
      · rename_i hne
        refine VWP.block ((ih _ _ _ _ _ h).mono ?_)
        rintro e' t ⟨rfl, rfl⟩
        cases e' with
        | exit j => exact absurd h (hne _ _)
        | _ => exact ⟨rfl, rfl⟩
    | loop c =>
      simp only [vcodeO] at h
      exact VWP.rounds n (vloop_sound (fun s e s' h => ih _ _ _ _ _ h) n s s' e h)
    | exit i => simp [vcodeO] at h; obtain ⟨rfl, rfl⟩ := h; exact VWP.exit ⟨rfl, rfl⟩
    | ret => simp [vcodeO] at h; obtain ⟨rfl, rfl⟩ := h; exact VWP.ret ⟨rfl, rfl⟩
    | rangeFunc g ps asg bd =>
      simp only [vcodeO] at h
      exact vrange_sound hc h
    | scope c => simp [vcodeO] at h
    | goto l => simp [vcodeO] at h
    | refuse w => simp [vcodeO] at h
end
/-- A call, reckoned. -/
theorem VCall.runO {P : Program} {orc : CallF} (ho : CallOK P orc) (hm : P.follows .mixedOrders = true) (n : Nat) {f : FuncId} {args : List VV} {H H' : Heap} {v : VV} (h : vcallO orc P (vcodeO orc P n) f args H = some (v, H')) : VCall P f args H (fun x K => x = v ∧ K = H') := vcallO_ok ho (vcodeO_ok ho hm n) _ _ _ _ _ h
/-- A closed run with arguments. -/
theorem VCall.closedO {P : Program} {orc : CallF} (ho : CallOK P orc) {f : FuncId} {args : List VV} {H : Heap} (hm : P.follows .mixedOrders = true) (n : Nat) {u : Value} (ha : ∀ v ∈ args, Nameless v) (h : isV (vcallO orc P (vcodeO orc P n) f args ⟨[], 0⟩) (.sc u) = true) : VCall P f args H (fun v K => v = .sc u ∧ K = H) := by
  unfold isV at h
  split at h
  · rename_i v K hr
    have := veq_eq h
    subst this
    refine (VCall.apart (Q := fun x K' => x = .sc u ∧ K' = K) ha (VCall.runO ho hm n hr) (fun v K e => e.1 ▸ exact_sc u)).mono ?_
    rintro v K' ⟨⟨_, e, _⟩, e2⟩
    exact ⟨e, e2⟩
  · simp at h
/-- Clone of nothing. -/
def orcC : CallF := fun f args H => match Nat.beq f 70, args with
  | true, [.ro 0 []] => some (.ro 0 [], H)
  | _, _ => none
theorem orcC_ok : CallOK Tryd.prog orcC := by
  intro f args H v H' h
  unfold orcC at h
  split at h
  · rename_i hf
    have hf := Nat.eq_of_beq_eq_true hf
    simp at h
    obtain ⟨rfl, rfl⟩ := h
    rw [hf]
    exact clone_call [] H (by simp)
  · cases h
end Go.Proofs.YtmmjgbdihgdekaaDoor

/- What comes in, as values of the walk: rows of texts. Over any program. -/
namespace Go.Proofs.YtmmjgbdihgdekaaDoor
open Go Go.ChangeShapes Go.WideShapes Go.RowKit
set_option linter.unusedSimpArgs false
set_option linter.unusedVariables false
theorem open_rs {P : Program} {H : Type} {enc : TypeId × Value → H} {W : World} {base : Nat} {t e : TypeId} {v : Value} {d : DataW H} {p : List MemPlace} (ut : P.underlying t = some (.slice e)) (ue : P.underlying e = some .string) (hc : P.cellsOf e = 1)
    (hval : Value.okWide P W .any base t v) (h : DataW.Trod enc P W 0 (fun _ => true) true t v d p) : ∃ l : List (List UInt8), l.length ≤ maxLen ∧ VRel W (Old W) noName (.ro l.length (l.map strV)) v := by
  obtain ⟨a1, len, cap, rfl⟩ := okWide_slice ut hval
  obtain ⟨fuel, hf⟩ := h
  rcases Go.Deep.open_strs ut ue hc hf with ⟨hcs, hx⟩ | ⟨a, len', cap', m, Sx, hcs, _, hl, hm, hmm, hx, hcell⟩
  · simp [Value.cells] at hcs
    obtain ⟨rfl, rfl, rfl⟩ := hcs
    exact ⟨[], Nat.zero_le _, .ro0⟩
  · simp [Value.cells] at hcs
    obtain ⟨rfl, rfl, rfl⟩ := hcs
    simp only [if_true] at hmm
    subst hmm
    refine ⟨(List.range len).map fun i => (Sx i).data.toList, by simp; omega, ?_⟩
    have hlen : ((List.range len).map fun i => (Sx i).data.toList).length = len := by simp
    rw [hlen]
    by_cases h0 : len = 0
    · subst h0
      exact .ro0
    · obtain ⟨ab, ao, spot⟩ := a
      have hspot : spot = none := by simpa [Addr.add] using World.cell?_spot (hcell 0 (by omega)).1
      subst hspot
      have hZ : Old W ab := by
        have := (hcell 0 (by omega)).1
        unfold Old
        simp only [Addr.add, World.cell?] at this
        cases hh : W.heap[ab]? with
        | none => simp [hh] at this
        | some o => exact (Array.getElem?_eq_some_iff.1 hh).1
      refine .ro (cs := (List.range len).map fun i => Value.string (Sx i)) hZ hl (by simp) (fun i hi => ?_) (fun i u c hu hc => ?_)
      · simp only [List.length_map, List.length_range] at hi
        have := (hcell i (by omega)).1
        rw [Addr.add_lit] at this
        rw [this, List.getElem?_map, List.getElem?_range hi]
        rfl
      · have hi : i < len := by
          have := (List.getElem?_eq_some_iff.1 hc).1
          simpa using this
        rw [List.getElem?_map, List.getElem?_map, List.getElem?_range hi] at hu
        rw [List.getElem?_map, List.getElem?_range hi] at hc
        simp only [Option.map_some, Option.some.injEq] at hu hc
        subst hu hc
        exact .sc rfl
end Go.Proofs.YtmmjgbdihgdekaaDoor

