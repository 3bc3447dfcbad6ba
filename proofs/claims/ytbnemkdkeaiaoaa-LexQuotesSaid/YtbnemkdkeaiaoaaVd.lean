/- Helpers over this seat's program: bytes, texts, slices that grow, frozen rows. -/
import Derived.Test.YtbnemkdkeaiaoaaVa
import Derived.Test.YtbnemkdkeaiaoaaV9
import Derived.Test.YtbnemkdkeaiaoaaVe
import Derived.Test.YtbnemkdkeaiaoaaChecked
namespace Go.Proofs.Ytbnemkdkeaiaoaa
open Go Go.RowKit
set_option linter.unusedSimpArgs false
set_option linter.unusedVariables false
set_option maxRecDepth 100000
set_option maxHeartbeats 4000000
theorem mixed : (Try.prog).follows .mixedOrders = true := by kernel_rfl
theorem vagg_u8 : vagg Try.prog 5 = some false := by kernel_rfl
theorem info_u8 : ∃ i, (Try.prog).info? 5 = some i ∧ i.size = 1 ∧ i.bytes = 1 := ⟨_, rfl, rfl, rfl⟩
theorem zero_u8 : ∃ zl, vzero Try.prog 5 = some zl ∧ zl.length = 1 := ⟨_, rfl, rfl⟩
theorem one_map (l : List UInt8) : (l.map bV).all VV.one = true := by simp [bV, VV.one]
theorem vapp_nil {l : List UInt8} {H : Heap} {b : Nat} (hl : l.length = 0) : vappend Try.prog 28 28 (.sl b 0 0 (some 0) 1) (roB l) H = some (.sl b 0 0 (some 0) 1, H) := by
  obtain ⟨i, h1, h2, h3⟩ := info_u8
  obtain ⟨zl, h4, h5⟩ := zero_u8
  simp only [vappend, Try.underlying28, h1, h4, h2, roB, velems, List.length_map, Nat.mul_one, if_true, h5, Nat.beq_refl, one_map, Bool.and_self, vappCase, hl]
theorem vapp_new {l : List UInt8} {H : Heap} {b : Nat} {vs : List VV} (hl : ¬ l.length = 0) (hm : l.length ≤ 140737488355328) (hg : H.get b = some (.cells true vs)) : vappend Try.prog 28 28 (.sl b 0 0 (some 0) 1) (roB l) H = some (.sl H.next 0 l.length none 1, H.add (.cells true (l.map bV))) := by
  obtain ⟨i, h1, h2, h3⟩ := info_u8
  obtain ⟨zl, h4, h5⟩ := zero_u8
  simp only [vappend, Try.underlying28, h1, h4, h2, h3, roB, velems, List.length_map, Nat.mul_one, if_true, h5, Nat.beq_refl, one_map, Bool.and_self, vappCase, if_neg hl, hg, Nat.zero_add, if_neg (show ¬ l.length ≤ 0 by omega)]
  rw [if_pos ⟨by omega, by omega, by omega⟩]
  simp
theorem vop_store {P : Program} {o : Oper} {ts : List VV} {H H' : Heap} {t : TypeId} {a x : Operand} (ho : o.op = .store t a x) (h : vstore P t (veval ts a) (veval ts x) H = some H') : vop P o ts H = some (.tp [], H') := by
  simp only [vop, ho, h]
theorem vop_make {P : Program} {o : Oper} {ts : List VV} {H : Heap} {r : VV × Heap} {t : TypeId} {a x : Operand} (ho : o.op = .makeSlice t a x) (h : vmakeSlice P t (veval ts a) (veval ts x) H = some r) : vop P o ts H = some r := by
  simp only [vop, ho, h]
theorem vstore_u8 {H : Heap} {b q i : Nat} {vs : List VV} {x : UInt8} (hg : H.get b = some (.cells true vs)) (hi : q = i) (hq : i < vs.length) : vstore Try.prog 5 (.ptr b q) (bV x) H = some (H.set b (.cells true (vs.set i (bV x)))) := by
  subst hi
  have hz : vsize Try.prog 5 = some 1 := by kernel_rfl
  have h1 : Nat.ble (q + 1) vs.length = true := Nat.ble_eq_true_of_le hq
  simp only [vstore, hg, bV, cellsOf, hz, List.length_singleton, Nat.beq_refl, h1, Bool.and_self, setRun]
theorem zeros_u8 (n : Nat) : ∃ zl, vzero Try.prog 5 = some zl ∧ zl.length = 1 ∧ vzeros zl (n * 1) = List.replicate n (bV 0) := by
  refine ⟨[bV 0], rfl, rfl, ?_⟩
  show List.replicate (n * 1) (bV 0) = _
  rw [Nat.mul_one]
theorem vmake_u8 {H : Heap} {n : Nat} (hn : n ≤ 140737488355328) : vmakeSlice Try.prog 28 (iV n) (iV n) H = some (.sl H.next 0 n (some n) 1, H.add (.cells true (List.replicate n (bV 0)))) := by
  obtain ⟨i, h1, h2, h3⟩ := info_u8
  obtain ⟨zl, h4, h5, h6⟩ := zeros_u8 n
  simp only [vmakeSlice, iV, Try.underlying28, h1, h4, h2, h3, Int.toNat_natCast, h6]
  rw [if_pos ⟨by omega, by omega, by omega, by omega, h5, by omega⟩]
theorem sty_b : SlTy Try.prog 28 1 1 := ⟨⟨_, _, _, rfl, rfl, rfl, rfl, rfl, rfl⟩⟩
theorem sty_s : SlTy Try.prog 41 1 16 := ⟨⟨_, _, _, rfl, rfl, rfl, rfl, rfl, rfl⟩⟩
theorem one_str (l : List (List UInt8)) : (l.map strV).all VV.one = true := by simp [strV, VV.one]
theorem velems_roB (l : List UInt8) (H : Heap) : velems 1 (roB l) H = some (l.length, l.map bV) := by simp [velems, roB]
theorem velems_sl {H : Heap} {b n : Nat} {c : Option Nat} {vs : List VV} (hg : H.get b = some (.cells true vs)) (hn : n = vs.length) : velems 1 (.sl b 0 n c 1) H = some (n, vs) := by
  subst hn
  simp only [velems, hg]
  simp
/-- append([]byte{}, l...), taken as rows that nobody writes. -/
theorem GOp'.ownB {l : List UInt8} {o : Oper} {ts : List VV} {H : Heap} {K : VV → Heap → Prop} {s x : Operand} {b : Nat} {vs : List VV} (ho : o.op = .call ⟨.builtin .append, #[s, x], #[28, 28]⟩) (hs : veval ts s = .sl b 0 0 (some 0) 1) (hx : veval ts x = roB l) (hl : l.length ≤ 140737488355328)
    (hg : H.get b = some (.cells true vs)) (hrw : AllRw H) (k : K (roB l) ⟨H.objs, H.next + 1⟩) : GOp' Try.prog o ts H K := by
  by_cases h0 : l.length = 0
  · have : l = [] := List.eq_nil_of_length_eq_zero h0
    subst this
    refine GOp'.weak (v := .sl b 0 0 (some 0) 1) (H' := H) (n := H.next + 1) (vop_append ho ?_) (fun w Z ρ y h => weak_sl0 h) (Nat.le_succ _) k
    rw [hs, hx]
    exact vapp_zero sty_b (d := .slice 5) Try.underlying28 (by intro k h; cases h) (.inl ⟨_, _, _, _, rfl⟩) (velems_roB [] _)
  · refine GOp'.fresh (n := l.length) (z := 1) (c := none) (vs := l.map bV) (us := l.map bV) hrw (vop_append ho ?_) (by simp) (nameless_map nameless_bV l) (by rw [List.take_of_length_le (by simp)]) k
    rw [hs, hx]
    have := vapp_full sty_b (d := .slice 5) Try.underlying28 (by intro k h; cases h) (o := 0) (n := 0) (c := 0) (z' := 1) (rw := true) (velems_roB l H) (one_map l) hg (by omega) (by omega) (by simp) (by omega) (by omega)
    rw [this, Nat.zero_add]
    simp
theorem get_skip {objs : List (Nat × VObj)} {nx : Nat} (hl : ∀ b x, (⟨objs, nx⟩ : Heap).get b = some x → b < nx) {b : Nat} {o y : VObj} (h : hget objs b = some o) : hget ((nx, y) :: objs) b = some o := by
  have := hl b o h
  rw [hget_cons, if_neg (by omega)]
  exact h
/-- What has been told, as a slice whose rows lie in block nm. -/
def outV (nm : Nat) : List (List UInt8) → VV
  | [] => .sc (.slice none 0 0)
  | a :: r => .sl nm 0 (r.length + 1) none 1
def outO (nm : Nat) : List (List UInt8) → List (Nat × VObj)
  | [] => []
  | a :: r => [(nm, .cells true (strV a :: r.map strV))]
def u8V (x : Int) : VV := .sc (.int .u8 x)
theorem vstore_i8 {H : Heap} {b q i : Nat} {vs : List VV} {x : Int} (hg : H.get b = some (.cells true vs)) (hi : q = i) (hq : i < vs.length) : vstore Try.prog 5 (.ptr b q) (.sc (.int .u8 x)) H = some (H.set b (.cells true (vs.set i (u8V x)))) := by
  subst hi
  have hz : vsize Try.prog 5 = some 1 := by kernel_rfl
  have h1 : Nat.ble (q + 1) vs.length = true := Nat.ble_eq_true_of_le hq
  simp only [vstore, hg, u8V, cellsOf, hz, List.length_singleton, Nat.beq_refl, h1, Bool.and_self, setRun]
theorem all_u8 (x : List UInt8) : ∀ v ∈ x.map bV, ∃ z, v = u8V z := fun v hv => by
  obtain ⟨b, _, rfl⟩ := List.mem_map.1 hv
  exact ⟨_, rfl⟩
theorem all_set {row : List VV} {j : Nat} {z : Int} (h : ∀ v ∈ row, ∃ z, v = u8V z) : ∀ v ∈ row.set j (u8V z), ∃ z, v = u8V z := fun v hv => by
  rcases List.mem_or_eq_of_mem_set hv with hv | rfl
  · exact h v hv
  · exact ⟨z, rfl⟩
theorem u8_nameless {row : List VV} (h : ∀ v ∈ row, ∃ z, v = u8V z) : ∀ v ∈ row, Nameless v := fun v hv => by
  obtain ⟨z, rfl⟩ := h v hv
  exact nameless_sc _
theorem row_at {row : List VV} {j : Nat} (hj : j < row.length) (h : ∀ v ∈ row, ∃ z, v = u8V z) : ∃ z, row[j]? = some (u8V z) := by
  obtain ⟨z, hz⟩ := h _ (List.getElem_mem hj)
  exact ⟨z, by rw [List.getElem?_eq_getElem hj, hz]⟩
theorem vbytes_whole (x : List UInt8) : vbytes (((x.map bV).drop 0).take x.length) = some x := by
  rw [List.drop_zero, List.take_of_length_le (by simp)]
  exact vbytes_map x
theorem RenV.slE {R : List (Nat × Nat)} {t b b' o n n' z : Nat} {c : Option Nat} (h : (b, b') ∈ R) (e : n = n') : RenV R t (.sl b o n c z) (.sl b' o n' c z) := by subst e; exact .sl h
theorem RenL.eq {R : List (Nat × Nat)} {t : Nat} {vs us : List VV} (e : vs = us) (h : ∀ v ∈ us, Nameless v) : RenL R t vs us := by subst e; exact .of h
theorem strs_nameless (d : List UInt8) (l : List (List UInt8)) : ∀ v ∈ strV d :: l.map strV, Nameless v := nameless_map nameless_strV (d :: l)
theorem grow_eq (d : List UInt8) (l : List (List UInt8)) (x : List UInt8) : (strV d :: l.map strV).take ((l.length + 1) * 1) ++ [strV x] = strV d :: (l ++ [x]).map strV := by
  rw [List.take_of_length_le (by simp)]
  simp
theorem boolV_eq {b : Bool} (h : b = true) : VV.sc (.bool b) = booV true := by subst h; rfl
theorem intV_eq {x y : Int} (h : x = y) : VV.sc (.int .i64 x) = iV y := by subst h; rfl
theorem frz_out {K : Heap} {b n : Nat} {vs : List VV} {ss : List (List UInt8)} (hg : K.get b = some (.cells true vs)) (hv : vs = ss.map strV) (hn : n = ss.length) : Frz K (.sl b 0 n none 1) (roS ss) := by
  subst hv hn
  have := Frz.sl (K := K) (b := b) (o := 0) (n := ss.length) (z := 1) (c := none) hg (by simp) (nameless_map nameless_strV ss)
  rw [List.drop_zero, Nat.mul_one, List.take_of_length_le (by simp)] at this
  exact this
theorem Frz.eq {K : Heap} {v u : VV} (e : v = u) (h : Nameless u) : Frz K v u := by subst e; exact .of h
theorem vagg_str : vagg Try.prog 9 = some false := by kernel_rfl
theorem maps_at {l : List (List UInt8)} {i : Nat} {b : List UInt8} (h : l[i]? = some b) : (l.map strV)[i]? = some (strV b) := by
  rw [List.getElem?_map, h]; rfl
theorem list_at {α : Type} {l : List α} {i : Nat} (h : i < l.length) : ∃ c, l[i]? = some c := ⟨l[i], by simp⟩
theorem drop_eq {α : Type} [BEq α] [LawfulBEq α] {a b : List α} {i : Nat} {x y : α} (ha : a[i]? = some x) (hb : b[i]? = some y) : (a.drop i == b.drop i) = ((x == y) && (a.drop (i + 1) == b.drop (i + 1))) := by
  obtain ⟨h1, e1⟩ := List.getElem?_eq_some_iff.1 ha
  obtain ⟨h2, e2⟩ := List.getElem?_eq_some_iff.1 hb
  rw [List.drop_eq_getElem_cons h1, List.drop_eq_getElem_cons h2, e1, e2]
  rfl
def outE : List (List UInt8) → VV
  | [] => .sl 0 0 0 (some 0) 1
  | a :: r => .sl 1 0 (r.length + 1) none 1
/-- Bytes in a slice whose rows lie in block nm; none: nil. -/
def byV (nm : Nat) : List UInt8 → VV
  | [] => .sc (.slice none 0 0)
  | a :: r => .sl nm 0 (r.length + 1) none 1
def byO (nm : Nat) : List UInt8 → List (Nat × VObj)
  | [] => []
  | a :: r => [(nm, .cells true (bV a :: r.map bV))]
theorem bytes_nameless (d : UInt8) (l : List UInt8) : ∀ v ∈ bV d :: l.map bV, Nameless v := nameless_map nameless_bV (d :: l)
theorem grow_by (d : UInt8) (l : List UInt8) (x : UInt8) {v : VV} (hv : v = bV x) : (bV d :: l.map bV).take ((l.length + 1) * 1) ++ [v] = bV d :: (l ++ [x]).map bV := by
  subst hv
  rw [List.take_of_length_le (by simp)]
  simp
theorem allS_at {α : Type} {l : List α} {i : Nat} {c : α} (p : α → Bool) (h : l[i]? = some c) : (l.drop i).all p = (p c && (l.drop (i + 1)).all p) := by
  obtain ⟨hi, e⟩ := List.getElem?_eq_some_iff.1 h
  rw [List.drop_eq_getElem_cons hi, e, List.all_cons]
theorem vagg_bs : vagg Try.prog 28 = some false := by kernel_rfl
theorem mapb_at {l : List (List UInt8)} {i : Nat} {b : List UInt8} (h : l[i]? = some b) : (l.map roB)[i]? = some (roB b) := by
  rw [List.getElem?_map, h]; rfl
theorem scI_eq {k : IntKind} {x y : Int} (h : x = y) : VV.sc (.int k x) = VV.sc (.int k y) := by subst h; rfl
theorem frz_gsB {K : Heap} {b : Nat} {d : List UInt8} (hg : K.get b = some (.opt (d.map bV))) : Frz K (.gs b d.length 1) (roB d) := Frz.gs hg (by simp) (nameless_map nameless_bV d)
theorem view_gsB {H : Heap} {b : Nat} {d : List UInt8} (hg : H.get b = some (.opt (d.map bV))) : View H (.gs b d.length 1) (roB d) := View.gs hg (by simp) (nameless_map nameless_bV d)
/-- s[lo:hi] of rows that are named. -/
theorem vslice_n {t : TypeId} {e : TypeId} {z : Nat} {b q n l h : Nat} {lo hi : Option VV} (hu : (Try.prog).underlying t = some (.slice e)) (hz : vsize Try.prog e = some z) (hb : vbounds n n lo hi none = some (l, h, none)) (hl : l < h) : vslice Try.prog t (.sl b q n none z) lo hi none = some (.sl b (q + l * z) (h - l) none z) := by
  simp only [vslice, hu, hz, Option.getD_none, hb, if_true]
  by_cases h0 : l = 0
  · subst h0
    simp
  · rw [if_neg h0, if_neg (by omega)]
theorem vslice_e {t : TypeId} {e : TypeId} {z : Nat} {b q n l : Nat} {lo hi : Option VV} (hu : (Try.prog).underlying t = some (.slice e)) (hz : vsize Try.prog e = some z) (hb : vbounds n n lo hi none = some (l, l, none)) (hl : 0 < l) : vslice Try.prog t (.sl b q n none z) lo hi none = some (.ro 0 []) := by
  simp only [vslice, hu, hz, Option.getD_none, hb, if_true]
  rw [if_neg (by omega)]
theorem vb_lh {n : Nat} {k1 k2 : IntKind} {i j : Int} (h : 0 ≤ i ∧ i ≤ j ∧ j ≤ (n : Int)) : vbounds n n (some (.sc (.int k1 i))) (some (.sc (.int k2 j))) none = some (i.toNat, j.toNat, none) := by
  have c1 : 0 ≤ j ∧ j ≤ (n : Int) := ⟨by omega, h.2.2⟩
  have c2 : 0 ≤ i ∧ i ≤ ((j.toNat : Nat) : Int) := ⟨h.1, by omega⟩
  simp only [vbounds, vbound, if_pos c1, if_pos c2]
theorem vb_h {n : Nat} {k2 : IntKind} {j : Int} (h : 0 ≤ j ∧ j ≤ (n : Int)) : vbounds n n none (some (.sc (.int k2 j))) none = some (0, j.toNat, none) := by
  simp only [vbounds, vbound, if_pos h]
theorem vb_l {n : Nat} {k1 : IntKind} {i : Int} (h : 0 ≤ i ∧ i ≤ (n : Int)) : vbounds n n (some (.sc (.int k1 i))) none none = some (i.toNat, n, none) := by
  simp only [vbounds, vbound, if_pos h]
theorem GOp'.slN {o : Oper} {ts : List VV} {H : Heap} {K : VV → Heap → Prop} {t e : TypeId} {x : Operand} {lo hi : Option Operand} {b q n z l h : Nat} (ho : o.op = .slice t x lo hi none) (hu : (Try.prog).underlying t = some (.slice e)) (hz : vsize Try.prog e = some z) (hx : veval ts x = .sl b q n none z) (hb : vbounds n n (lo.map (veval ts)) (hi.map (veval ts)) none = some (l, h, none)) (hl : l < h) (k : K (.sl b (q + l * z) (h - l) none z) H) : GOp' Try.prog o ts H K := by
  refine GOp'.via (v := .sl b (q + l * z) (h - l) none z) (H' := H) ?_ k
  simp only [vop, ho, hx, Option.map_none, vslice_n hu hz hb hl, orE, keepH]
theorem GOp'.slE {o : Oper} {ts : List VV} {H : Heap} {K : VV → Heap → Prop} {t e : TypeId} {x : Operand} {lo hi : Option Operand} {b q n z l : Nat} (ho : o.op = .slice t x lo hi none) (hu : (Try.prog).underlying t = some (.slice e)) (hz : vsize Try.prog e = some z) (hx : veval ts x = .sl b q n none z) (hb : vbounds n n (lo.map (veval ts)) (hi.map (veval ts)) none = some (l, l, none)) (hl : 0 < l) (k : K (.ro 0 []) H) : GOp' Try.prog o ts H K := by
  refine GOp'.via (v := .ro 0 []) (H' := H) ?_ k
  simp only [vop, ho, hx, Option.map_none, vslice_e hu hz hb hl, orE, keepH]
/-- A closed run with arguments. -/
theorem VCall.closedA {P : Program} {f : FuncId} {args : List VV} {H : Heap} (hm : P.follows .mixedOrders = true) (n : Nat) {u : Value} (ha : ∀ v ∈ args, Nameless v) (h : isV (vcallW P (vcode P n) f args ⟨[], 0⟩) (.sc u) = true) : VCall P f args H (fun v K => v = .sc u ∧ K = H) := by
  unfold isV at h
  split at h
  · rename_i v K hr
    have := veq_eq h
    subst this
    refine (VCall.apart (Q := fun x K' => x = .sc u ∧ K' = K) ha (VCall.run hm n hr) (fun v K e => e.1 ▸ exact_sc u)).mono ?_
    rintro v K' ⟨⟨_, e, _⟩, e2⟩
    exact ⟨e, e2⟩
  · simp at h
theorem GWP.rounds2 {P : Program} {r : Option Nat} {c : Code} {Q : Exit → VSt → Prop} {s : VSt} (h : wcode P r c (thenQ (fun s' => wcode P r c (thenQ (fun _ => False) Q) s') Q) s) : GWP P r (.loop c) Q s := ⟨VWP.rounds 2 ((wcode_sound h).mono fun e s' q => by
  cases e with
  | normal => exact (wcode_sound q).mono fun e2 s2 q2 => by cases e2 <;> exact q2
  | _ => exact q)⟩
theorem VCall.arg21 {P : Program} {f : FuncId} {v u a : VV} {H : Heap} {Q : VV → Heap → Prop} (e : v = u) (h : VCall P f [u, a] H Q) : VCall P f [v, a] H Q := e ▸ h
inductive FrxL (K : Heap) : List VV → List VV → Prop
  | nil : FrxL K [] []
  | cons {v u : VV} {r s : List VV} (h : Frx K v u) (t : FrxL K r s) : FrxL K (v :: r) (u :: s)
theorem Frx.tp {K : Heap} {vs us : List VV} (h : FrxL K vs us) : Frx K (.tp vs) (.tp us) := fun B w Z ρ ρ2 y hr hv => by
  cases hv with
  | @tp _ cs h1 r1 =>
    obtain ⟨cs⟩ := cs
    simp only at h1 r1
    have key : ∀ {vs us : List VV} {cs : List Value}, FrxL K vs us → Pw (VRel w Z ρ) vs cs → Pw (VRel w (fun k => B.heap.size ≤ k ∧ k < w.heap.size) ρ2) us cs := by
      intro vs us cs h
      induction h generalizing cs with
      | nil => intro hp; exact ⟨hp.1, fun i u c hu => by simp at hu⟩
      | @cons v u r s hvu _ ih =>
        intro hp
        match cs, hp with
        | c :: ct, hp =>
          have h0 := hp.2 0 v c rfl rfl
          have ht : Pw (VRel w Z ρ) r ct := ⟨by have := hp.1; simpa using this, fun i u c hu hc => hp.2 (i + 1) u c (by simpa using hu) (by simpa using hc)⟩
          exact Pw.cons (hvu B w Z ρ ρ2 c hr h0) (ih ht)
    have := key h ⟨h1, r1⟩
    exact .tp this.1 this.2
theorem Frx.nil0 {K : Heap} {c : Nat} : Frx K (.sc (.slice none 0 c)) (.ro 0 []) := fun B w Z ρ ρ2 y _ hv => by
  cases hv
  exact .ro0
theorem VCall.bytes {P : Program} {f : FuncId} (hm : P.follows .mixedOrders = true) (n : Nat) (g : UInt8 → Bool) (h : ((List.range 256).all fun k => isV (vcallW P (vcode P n) f [.sc (.int .u8 (k : Int))] ⟨[], 0⟩) (.sc (.bool (g (UInt8.ofNat k))))) = true) (b : UInt8) (H : Heap) : VCall P f [bV b] H (fun x K => x = booV (g b) ∧ K = H) := by
  have hb := List.all_eq_true.1 h b.toNat (List.mem_range.2 (u8_lt b))
  rw [UInt8.ofNat_toNat] at hb
  unfold isV at hb
  split at hb
  · rename_i v K hr
    have := veq_eq hb
    subst this
    refine (VCall.apart (Q := fun x K' => x = .sc (.bool (g b)) ∧ K' = K) (by simp [nameless_sc, bV]) (VCall.run hm n hr) (fun v K e => e.1 ▸ exact_sc _)).mono ?_
    rintro v K' ⟨⟨_, e, _⟩, e2⟩
    exact ⟨e, e2⟩
  · simp at hb
/-- So many rounds of a loop, at most. -/
structure GRnd (P : Program) (r : Option Nat) (c : Code) (Q : Exit → VSt → Prop) (n : Nat) (s : VSt) : Prop where
  out : VRounds P r c Q n s
structure GRnd' (P : Program) (r : Option Nat) (c : Code) (Q : Exit → VSt → Prop) (n : Nat) (s : VSt) : Prop where
  out : GRnd P r c Q n s
theorem stopG {P : Program} {r : Option Nat} {c : Code} {Q : Exit → VSt → Prop} {s : VSt} {n : Nat} (h : GRnd' P r c Q n s) : GRnd P r c Q n s := h.out
theorem GWP.step {P : Program} {r : Option Nat} {c : Code} {Q : Exit → VSt → Prop} {s : VSt} {n : Nat} (h : wcode P r c (thenQ (fun s' => GRnd P r c Q n s') Q) s) : GRnd P r c Q (n + 1) s := ⟨(wcode_sound h).mono fun e s' q => by
  cases e with
  | normal => exact q.out
  | _ => exact q⟩
theorem GRnd'.step {P : Program} {r : Option Nat} {c : Code} {Q : Exit → VSt → Prop} {s : VSt} {n : Nat} (h : wcode P r c (thenQ (fun s' => GRnd P r c Q n s') Q) s) : GRnd' P r c Q (n + 1) s := ⟨GWP.step h⟩
theorem GWP.rounds {P : Program} {r : Option Nat} {c : Code} {Q : Exit → VSt → Prop} {s : VSt} (n : Nat) (h : GRnd P r c Q n s) : GWP P r (.loop c) Q s := ⟨VWP.rounds n h.out⟩
/-- A call that is told by a contract of the kit: plain values in, one plain value out. -/
theorem VCall.ofBelow {P : Program} {f : FuncId} {vals : List Value} {y : Value} {H : Heap} (h : ∀ w, Tabs w → Calls P f vals.toArray w (fun e w' => e = .returned y ∧ Below w.heap.size w w')) : VCall P f (vals.map .sc) H (fun x K => x = ofV y ∧ K = H) := fun B M Z ρ w ra h1 h2 => by
  have key : ∀ {l : List Value} {cs : List Value}, Pw (VRel w Z ρ) (l.map .sc) cs → cs = l := by
    intro l
    induction l with
    | nil => intro cs hp; exact List.eq_nil_of_length_eq_zero (by simpa using hp.1.symm)
    | cons v r ih =>
      intro cs hp
      match cs, hp with
      | c :: ct, hp =>
        have h0 := hp.2 0 (.sc v) c rfl rfl
        have ht : Pw (VRel w Z ρ) (r.map .sc) ct := ⟨by have := hp.1; simpa using this, fun i u c hu hc => hp.2 (i + 1) u c (by simpa using hu) (by simpa using hc)⟩
        rw [sc_inv h0, ih ht]
      | [], hp => have := hp.1; simp at this
  have hra : ra = vals.toArray := by
    have := key h2
    cases ra
    simp only at this
    rw [this]
  subst hra
  refine (h w h1.tabs).mono ?_
  rintro e w' ⟨rfl, hb⟩
  obtain ⟨e2, r2⟩ := h1.step (Z' := Z) hb.os hb.tape hb.output hb.size (fun k hk => hb.block k hk) (fun _ h => h) (fun _ h => .inl h)
  exact ⟨y, ofV y, H, Z, ρ, rfl, ⟨rfl, rfl⟩, e2, r2, ofV_rel y⟩
theorem GQuo.t {a b : Int} {K : Int → Prop} (h : -9223372036854775807 ≤ a ∧ a ≤ 9223372036854775807) (k : K (a.tdiv b)) : GQuo .i64 a b K := ⟨by
  have h1 : (a.tdiv b).natAbs ≤ a.natAbs := by rw [Int.natAbs_tdiv]; exact Nat.div_le_self _ _
  rw [wrap_i64_id (by omega) (by omega)]
  exact k⟩
/-- Equality of values of more than one cell. -/
theorem GOp'.eqAg {P : Program} {o : Oper} {ts : List VV} {H : Heap} {K : VV → Heap → Prop} {op : BinOp} {t : TypeId} {x y : Operand} {p : TypeId} {us vs : List VV} {xs ys : List Value} {b : Bool} (ho : o.op = .binOp op t x y p) (hop : op = .eql ∨ op = .neq) (hx : veval ts x = .ag us) (hy : veval ts y = .ag vs) (hxs : plainL us = some xs) (hys : plainL vs = some ys)
    (hg : P.eqGuardType P.depth t = false) (he : ∀ w, (Op.equal t (.agg xs.toArray) (.agg ys.toArray)).run P w = .ok b w) (k : K (.sc (.bool (if op = .eql then b else !b))) H) : GOp' P o ts H K := ⟨⟨by
  refine VOne.exec' k (fun c e => by simp [ho] at e) fun av w Z ρ hr => ⟨_, ?_, .sc rfl⟩
  have e1 : av x = .agg xs.toArray := plain_eq (v := .ag us) (by simp only [plain, hxs]) (hx ▸ hr x)
  have e2 : av y = .agg ys.toArray := plain_eq (v := .ag vs) (by simp only [plain, hys]) (hy ▸ hr y)
  rcases hop with rfl | rfl
  · simp [execOp, ho, e1, e2, eqGuard, binOp, he, hg]
  · simp [execOp, ho, e1, e2, eqGuard, binOp, he, hg]⟩⟩
/-- Names nothing, at a glance. -/
def scB : VV → Bool
  | .sc _ => true
  | .junk => true
  | .tp [] => true
  | _ => false
theorem scB_nameless {v : VV} (h : scB v = true) : Nameless v := by
  unfold scB at h
  split at h
  · exact nameless_sc _
  · exact fun w Z ρ ρ' y _ => .junk
  · exact nameless_tp (by simp)
  · simp at h
theorem VOne.frozen {P : Program} {o : Oper} {ts : List VV} {H H' : Heap} {v u : VV} (ha : ∀ v ∈ ts, Nameless v) (h : vop P o ts ⟨[], 0⟩ = some (v, H')) (hf : Frz H' v u) : VOne P o ts H (fun x K => x = u ∧ K = H) := fun B M Z ρ a w rr KK QE h1 h2 h3 => by
  have hp : Pw (VRel w Z (fun _ => none)) ts a.tmps.toList := ⟨h2.1, fun i u c hu hc => ha u (List.mem_of_getElem? hu) _ _ _ _ _ (h2.2 i u c hu hc)⟩
  refine VOne.plain h w (fun _ => False) Z (fun _ => none) a w rr KK QE (rel_apart h1) hp ?_
  rintro v' x K' Z' ρ' w' ⟨rfl, rfl⟩ e1 r1 v1
  obtain ⟨e2, r2⟩ := h1.step (Z' := fun k => Z k ∨ (w.heap.size ≤ k ∧ k < w'.heap.size)) r1.os r1.tape r1.output r1.size (fun k hk => r1.frame k hk id) (fun _ h => .inl h) (fun _ h => h)
  refine h3 v' u H _ ρ w' ⟨rfl, rfl⟩ e2 r2 ?_
  refine (hf w w' Z' ρ' ρ v' r1 v1).zmono fun k hk => ?_
  rcases hk with hk | hk
  · rcases e1.znew k hk with h | h | h | h
    · exact .inl h
    · exact .inr ⟨h, r1.zlt k hk⟩
    · exact .inr ⟨h, r1.zlt k hk⟩
    · exact h.elim
  · exact .inr hk
/-- A slice that is built in a drawn region: rows that nobody writes. -/
theorem GOp.drawn {P : Program} {o : Oper} {ts : List VV} {H : Heap} {n z : Nat} {c : Option Nat} {vs : List VV} (ha : ts.all scB = true) (h : vop P o ts ⟨[], 0⟩ = some (.sl 0 0 n c z, ⟨[(0, .cells true vs)], 1⟩)) (hl : n * z ≤ vs.length) (hn : vs.all scB = true) :
    GOp P o ts H (fun x K' => Is x (.ro n (vs.take (n * z))) K' H) := ⟨by
  refine (VOne.frozen (u := .ro n (vs.take (n * z))) (fun v hv => scB_nameless (List.all_eq_true.1 ha v hv)) h ?_).mono fun x K' e => ⟨e.1, e.2⟩
  have := Frz.sl (K := ⟨[(0, .cells true vs)], 1⟩) (b := 0) (o := 0) (n := n) (z := z) (c := c) rfl (by omega) (fun v hv => scB_nameless (List.all_eq_true.1 hn v hv))
  rwa [List.drop_zero] at this⟩
theorem take_next {l : List UInt8} {j : Nat} {x : UInt8} (h : l[j]? = some x) : l.take (j + 1) = l.take j ++ [x] := by
  obtain ⟨hi, e⟩ := List.getElem?_eq_some_iff.1 h
  rw [List.take_succ_eq_append_getElem hi, e]
/-- l[i:j:j]. -/
theorem GOp'.sl3 {o : Oper} {ts : List VV} {H : Heap} {K : VV → Heap → Prop} {l : List UInt8} {x lo hi mx : Operand} {a b : Int} {k1 k2 k3 : IntKind} {n : Nat} {vs : List VV} (ho : o.op = .slice 28 x (some lo) (some hi) (some mx)) (hx : veval ts x = .ro n vs) (hn : n = l.length) (hvs : vs = l.map bV) (hlo : veval ts lo = .sc (.int k1 a)) (hhi : veval ts hi = .sc (.int k2 b)) (hmx : veval ts mx = .sc (.int k3 b)) (h1 : 0 ≤ a ∧ a ≤ b ∧ b ≤ (l.length : Int))
    (k : K (roB ((l.drop a.toNat).take (b.toNat - a.toNat))) H) : GOp' Try.prog o ts H K := by
  subst hn hvs
  refine GOp'.via (v := .ro (b.toNat - a.toNat) (((l.map bV).drop (a.toNat * 1)).take ((b.toNat - a.toNat) * 1))) (H' := H) ?_ ?_
  · have hz : vsize Try.prog 5 = some 1 := by kernel_rfl
    have c1 : 0 ≤ b ∧ b ≤ ((l.length : Nat) : Int) := ⟨by omega, h1.2.2⟩
    have c2 : 0 ≤ b ∧ b ≤ ((b.toNat : Nat) : Int) := ⟨by omega, by omega⟩
    have c3 : 0 ≤ a ∧ a ≤ ((b.toNat : Nat) : Int) := ⟨by omega, by omega⟩
    simp only [vop, ho, vslice, Try.underlying28, hz, hx, Option.map_some, hlo, hhi, hmx, vbounds, vbound, if_pos c1, if_pos c2, if_pos c3, orE, keepH]
  · rw [roB_slice (l := l) (z := 1) rfl (by omega) (by omega)]
    exact k
/-- Only so much is kept of a state: these temporaries, these blocks. -/
theorem GWP'.keep {P : Program} {r : Option Nat} {c : Code} {Q : Exit → VSt → Prop} {s : VSt} (l : List (Nat × VV)) (n : Nat) (O : List (Nat × VObj)) (nx : Nat) (hn : s.tmps.length = n) (hf : FitT l s.tmps) (hnx : s.heap.next = nx) (hg : Gets s.heap O) (h : forceT (frameT l n 0) fun ts => GWP P r c Q ⟨ts, ⟨O, nx⟩, s.marks⟩) : GWP' P r c Q s := ⟨⟨by
  rw [forceT_eq] at h
  refine VWP.weaken (s1 := ⟨frameT l n 0, ⟨O, nx⟩, s.marks⟩) rfl hnx.symm (fun b x h => (hg.get h).1) (fun w Z ρ cs hp => ⟨?_, ?_⟩) h.out
  · rw [frameT_length, ← hn]; exact hp.1
  · intro i u x hu hx
    simp only [frameT_get] at hu
    split at hu
    · simp at hu
      rcases lookT_cases l s.tmps i hf with e | e
      · rw [← hu, e]; exact .junk
      · exact hp.2 i u x (by rw [e, hu]) hx
    · simp at hu⟩⟩
theorem equal_call (a b : List UInt8) (H : Heap) : VCall Try.prog 39 [roB a, roB b] H (fun x K => x = booV (a == b) ∧ K = H) := by
  refine VCall.go Try.func39 rfl ?_
  repeat' (first | with_reducible refine And.intro ?_ ?_ | ((with_reducible intro hc); (try simp only [zA, zB, zC, zD, zE, zF, zG, zH, zI, zJ, zK, zL, zM, zN, zO, zP, zQ, zR, zS, zT, zU, zV, zW] at hc); (first | (exact absurd rfl hc) | (exact absurd trivial hc) | (exfalso; omega) | skip)) | ((conv => whnf); first | with_reducible refine And.intro ?_ ?_ | refine ifB_intro ?_ ?_ | refine xA (by omega) ?_ | ((refine xB ?_); intro kw hk1 hk2) | refine xC (by omega) ?_ | refine xD ?_ | refine xE (by omega) ?_ | refine xF (by omega) ?_ | refine xG ?_ | refine xH ?_ | refine xI (by omega) ?_ | refine xJ (by omega) ?_ | (with_reducible refine stopA ?_) | refine Exists.intro _ (And.intro (by first | exact vbytes_map a | exact vbytes_map b) ?_) | refine GOp.via (by rfl) ?_ | (with_reducible first | refine stopO ?_ | refine stopE ?_ | refine stopD ?_ | refine stopW ?_ | refine stopG ?_ | refine stopC ?_ | refine stopR ?_)))
  all_goals (first | rw [List.length_map] | exact Done'.mk ⟨rfl, rfl⟩)
end Go.Proofs.Ytbnemkdkeaiaoaa
