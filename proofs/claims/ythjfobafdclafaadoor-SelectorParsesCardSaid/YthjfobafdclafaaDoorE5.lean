import Derived.Test.YthjfobafdclafaaDoorE4
import Derived.Test.YthjfobafdclafaaDoorChecked
/- Helpers over this seat's program: bytes, texts, slices that grow, frozen rows. -/
namespace Go.Proofs.YthjfobafdclafaaDoor
open Go Go.RowKit
set_option linter.unusedSimpArgs false
set_option linter.unusedVariables false
set_option maxRecDepth 100000
set_option maxHeartbeats 4000000
theorem mixed : (Tryd.prog).follows .mixedOrders = true := by kernel_rfl
theorem vagg_u8 : vagg Tryd.prog 5 = some false := by kernel_rfl
theorem one_map (l : List UInt8) : (l.map bV).all VV.one = true := by simp [bV, VV.one]
theorem vop_store {P : Program} {o : Oper} {ts : List VV} {H H' : Heap} {t : TypeId} {a x : Operand} (ho : o.op = .store t a x) (h : vstore P t (veval ts a) (veval ts x) H = some H') : vop P o ts H = some (.tp [], H') := by
  simp only [vop, ho, h]
theorem sty_b : SlTy Tryd.prog 22 1 1 := ⟨⟨_, _, _, rfl, rfl, rfl, rfl, rfl, rfl⟩⟩
theorem velems_roB (l : List UInt8) (H : Heap) : velems 1 (roB l) H = some (l.length, l.map bV) := by simp [velems, roB]
/-- append([]byte{}, l...), taken as rows that nobody writes. -/
theorem GOp'.ownB {l : List UInt8} {o : Oper} {ts : List VV} {H : Heap} {K : VV → Heap → Prop} {s x : Operand} {b : Nat} {vs : List VV} (ho : o.op = .call ⟨.builtin .append, #[s, x], #[22, 22]⟩) (hs : veval ts s = .sl b 0 0 (some 0) 1) (hx : veval ts x = roB l) (hl : l.length ≤ 140737488355328)
    (hg : H.get b = some (.cells true vs)) (hrw : AllRw H) (k : K (roB l) ⟨H.objs, H.next + 1⟩) : GOp' Tryd.prog o ts H K := by
  by_cases h0 : l.length = 0
  · have : l = [] := List.eq_nil_of_length_eq_zero h0
    subst this
    refine GOp'.weak (v := .sl b 0 0 (some 0) 1) (H' := H) (n := H.next + 1) (vop_append ho ?_) (fun w Z ρ y h => weak_sl0 h) (Nat.le_succ _) k
    rw [hs, hx]
    exact vapp_zero sty_b (d := .slice 5) Tryd.underlying22 (by intro k h; cases h) (.inl ⟨_, _, _, _, rfl⟩) (velems_roB [] _)
  · refine GOp'.fresh (n := l.length) (z := 1) (c := none) (vs := l.map bV) (us := l.map bV) hrw (vop_append ho ?_) (by simp) (nameless_map nameless_bV l) (by rw [List.take_of_length_le (by simp)]) k
    rw [hs, hx]
    have := vapp_full sty_b (d := .slice 5) Tryd.underlying22 (by intro k h; cases h) (o := 0) (n := 0) (c := 0) (z' := 1) (rw := true) (velems_roB l H) (one_map l) hg (by omega) (by omega) (by simp) (by omega) (by omega)
    rw [this, Nat.zero_add]
    simp
def u8V (x : Int) : VV := .sc (.int .u8 x)
theorem vstore_i8 {H : Heap} {b q i : Nat} {vs : List VV} {x : Int} (hg : H.get b = some (.cells true vs)) (hi : q = i) (hq : i < vs.length) : vstore Tryd.prog 5 (.ptr b q) (.sc (.int .u8 x)) H = some (H.set b (.cells true (vs.set i (u8V x)))) := by
  subst hi
  have hz : vsize Tryd.prog 5 = some 1 := by kernel_rfl
  have h1 : Nat.ble (q + 1) vs.length = true := Nat.ble_eq_true_of_le hq
  simp only [vstore, hg, u8V, cellsOf, hz, List.length_singleton, Nat.beq_refl, h1, Bool.and_self, setRun]
theorem all_u8 (x : List UInt8) : ∀ v ∈ x.map bV, ∃ z, v = u8V z := fun v hv => by
  obtain ⟨b, _, rfl⟩ := List.mem_map.1 hv
  exact ⟨_, rfl⟩
theorem all_set {row : List VV} {j : Nat} {z : Int} (h : ∀ v ∈ row, ∃ z, v = u8V z) : ∀ v ∈ row.set j (u8V z), ∃ z, v = u8V z := fun v hv => by
  rcases List.mem_or_eq_of_mem_set hv with hv | rfl
  · exact h v hv
  · exact ⟨z, rfl⟩
theorem u8_nameless {row : List VV} (h : ∀ v ∈ row, ∃ z, v = u8V z) : ∀ v ∈ row, Nameless v := fun v hv => by
  obtain ⟨z, rfl⟩ := h v hv
  exact nameless_sc _
theorem row_at {row : List VV} {j : Nat} (hj : j < row.length) (h : ∀ v ∈ row, ∃ z, v = u8V z) : ∃ z, row[j]? = some (u8V z) := by
  obtain ⟨z, hz⟩ := h _ (List.getElem_mem hj)
  exact ⟨z, by rw [List.getElem?_eq_getElem hj, hz]⟩
theorem vbytes_whole (x : List UInt8) : vbytes (((x.map bV).drop 0).take x.length) = some x := by
  rw [List.drop_zero, List.take_of_length_le (by simp)]
  exact vbytes_map x
theorem RenV.slE {R : List (Nat × Nat)} {t b b' o n n' z : Nat} {c : Option Nat} (h : (b, b') ∈ R) (e : n = n') : RenV R t (.sl b o n c z) (.sl b' o n' c z) := by subst e; exact .sl h
theorem RenL.eq {R : List (Nat × Nat)} {t : Nat} {vs us : List VV} (e : vs = us) (h : ∀ v ∈ us, Nameless v) : RenL R t vs us := by subst e; exact .of h
theorem Frz.eq {K : Heap} {v u : VV} (e : v = u) (h : Nameless u) : Frz K v u := by subst e; exact .of h
theorem scI_eq {k : IntKind} {x y : Int} (h : x = y) : VV.sc (.int k x) = VV.sc (.int k y) := by subst h; rfl
/-- s[lo:hi] of rows that are named. -/
theorem vslice_n {t : TypeId} {e : TypeId} {z : Nat} {b q n l h : Nat} {lo hi : Option VV} (hu : (Tryd.prog).underlying t = some (.slice e)) (hz : vsize Tryd.prog e = some z) (hb : vbounds n n lo hi none = some (l, h, none)) (hl : l < h) : vslice Tryd.prog t (.sl b q n none z) lo hi none = some (.sl b (q + l * z) (h - l) none z) := by
  simp only [vslice, hu, hz, Option.getD_none, hb, if_true]
  by_cases h0 : l = 0
  · subst h0
    simp
  · rw [if_neg h0, if_neg (by omega)]
theorem vslice_e {t : TypeId} {e : TypeId} {z : Nat} {b q n l : Nat} {lo hi : Option VV} (hu : (Tryd.prog).underlying t = some (.slice e)) (hz : vsize Tryd.prog e = some z) (hb : vbounds n n lo hi none = some (l, l, none)) (hl : 0 < l) : vslice Tryd.prog t (.sl b q n none z) lo hi none = some (.ro 0 []) := by
  simp only [vslice, hu, hz, Option.getD_none, hb, if_true]
  rw [if_neg (by omega)]
theorem vb_h {n : Nat} {k2 : IntKind} {j : Int} (h : 0 ≤ j ∧ j ≤ (n : Int)) : vbounds n n none (some (.sc (.int k2 j))) none = some (0, j.toNat, none) := by
  simp only [vbounds, vbound, if_pos h]
theorem vb_l {n : Nat} {k1 : IntKind} {i : Int} (h : 0 ≤ i ∧ i ≤ (n : Int)) : vbounds n n (some (.sc (.int k1 i))) none none = some (i.toNat, n, none) := by
  simp only [vbounds, vbound, if_pos h]
theorem GOp'.slN {o : Oper} {ts : List VV} {H : Heap} {K : VV → Heap → Prop} {t e : TypeId} {x : Operand} {lo hi : Option Operand} {b q n z l h : Nat} (ho : o.op = .slice t x lo hi none) (hu : (Tryd.prog).underlying t = some (.slice e)) (hz : vsize Tryd.prog e = some z) (hx : veval ts x = .sl b q n none z) (hb : vbounds n n (lo.map (veval ts)) (hi.map (veval ts)) none = some (l, h, none)) (hl : l < h) (k : K (.sl b (q + l * z) (h - l) none z) H) : GOp' Tryd.prog o ts H K := by
  refine GOp'.via (v := .sl b (q + l * z) (h - l) none z) (H' := H) ?_ k
  simp only [vop, ho, hx, Option.map_none, vslice_n hu hz hb hl, orE, keepH]
theorem GOp'.slE {o : Oper} {ts : List VV} {H : Heap} {K : VV → Heap → Prop} {t e : TypeId} {x : Operand} {lo hi : Option Operand} {b q n z l : Nat} (ho : o.op = .slice t x lo hi none) (hu : (Tryd.prog).underlying t = some (.slice e)) (hz : vsize Tryd.prog e = some z) (hx : veval ts x = .sl b q n none z) (hb : vbounds n n (lo.map (veval ts)) (hi.map (veval ts)) none = some (l, l, none)) (hl : 0 < l) (k : K (.ro 0 []) H) : GOp' Tryd.prog o ts H K := by
  refine GOp'.via (v := .ro 0 []) (H' := H) ?_ k
  simp only [vop, ho, hx, Option.map_none, vslice_e hu hz hb hl, orE, keepH]
theorem VCall.arg21 {P : Program} {f : FuncId} {v u a : VV} {H : Heap} {Q : VV → Heap → Prop} (e : v = u) (h : VCall P f [u, a] H Q) : VCall P f [v, a] H Q := e ▸ h
inductive FrxL (K : Heap) : List VV → List VV → Prop
  | nil : FrxL K [] []
  | cons {v u : VV} {r s : List VV} (h : Frx K v u) (t : FrxL K r s) : FrxL K (v :: r) (u :: s)
theorem Frx.tp {K : Heap} {vs us : List VV} (h : FrxL K vs us) : Frx K (.tp vs) (.tp us) := fun B w Z ρ ρ2 y hr hv => by
  cases hv with
  | @tp _ cs h1 r1 =>
    obtain ⟨cs⟩ := cs
    simp only at h1 r1
    have key : ∀ {vs us : List VV} {cs : List Value}, FrxL K vs us → Pw (VRel w Z ρ) vs cs → Pw (VRel w (fun k => B.heap.size ≤ k ∧ k < w.heap.size) ρ2) us cs := by
      intro vs us cs h
      induction h generalizing cs with
      | nil => intro hp; exact ⟨hp.1, fun i u c hu => by simp at hu⟩
      | @cons v u r s hvu _ ih =>
        intro hp
        match cs, hp with
        | c :: ct, hp =>
          have h0 := hp.2 0 v c rfl rfl
          have ht : Pw (VRel w Z ρ) r ct := ⟨by have := hp.1; simpa using this, fun i u c hu hc => hp.2 (i + 1) u c (by simpa using hu) (by simpa using hc)⟩
          exact Pw.cons (hvu B w Z ρ ρ2 c hr h0) (ih ht)
    have := key h ⟨h1, r1⟩
    exact .tp this.1 this.2
theorem Frx.nil0 {K : Heap} {c : Nat} : Frx K (.sc (.slice none 0 c)) (.ro 0 []) := fun B w Z ρ ρ2 y _ hv => by
  cases hv
  exact .ro0
theorem VCall.bytes {P : Program} {f : FuncId} (hm : P.follows .mixedOrders = true) (n : Nat) (g : UInt8 → Bool) (h : ((List.range 256).all fun k => isV (vcallW P (vcode P n) f [.sc (.int .u8 (k : Int))] ⟨[], 0⟩) (.sc (.bool (g (UInt8.ofNat k))))) = true) (b : UInt8) (H : Heap) : VCall P f [bV b] H (fun x K => x = booV (g b) ∧ K = H) := by
  have hb := List.all_eq_true.1 h b.toNat (List.mem_range.2 (u8_lt b))
  rw [UInt8.ofNat_toNat] at hb
  unfold isV at hb
  split at hb
  · rename_i v K hr
    have := veq_eq hb
    subst this
    refine (VCall.apart (Q := fun x K' => x = .sc (.bool (g b)) ∧ K' = K) (by simp [nameless_sc, bV]) (VCall.run hm n hr) (fun v K e => e.1 ▸ exact_sc _)).mono ?_
    rintro v K' ⟨⟨_, e, _⟩, e2⟩
    exact ⟨e, e2⟩
  · simp at hb
/-- So many rounds of a loop, at most. -/
structure GRnd (P : Program) (r : Option Nat) (c : Code) (Q : Exit → VSt → Prop) (n : Nat) (s : VSt) : Prop where
  out : VRounds P r c Q n s
structure GRnd' (P : Program) (r : Option Nat) (c : Code) (Q : Exit → VSt → Prop) (n : Nat) (s : VSt) : Prop where
  out : GRnd P r c Q n s
theorem stopG {P : Program} {r : Option Nat} {c : Code} {Q : Exit → VSt → Prop} {s : VSt} {n : Nat} (h : GRnd' P r c Q n s) : GRnd P r c Q n s := h.out
theorem GWP.step {P : Program} {r : Option Nat} {c : Code} {Q : Exit → VSt → Prop} {s : VSt} {n : Nat} (h : wcode P r c (thenQ (fun s' => GRnd P r c Q n s') Q) s) : GRnd P r c Q (n + 1) s := ⟨(wcode_sound h).mono fun e s' q => by
  cases e with
  | normal => exact q.out
  | _ => exact q⟩
theorem GRnd'.step {P : Program} {r : Option Nat} {c : Code} {Q : Exit → VSt → Prop} {s : VSt} {n : Nat} (h : wcode P r c (thenQ (fun s' => GRnd P r c Q n s') Q) s) : GRnd' P r c Q (n + 1) s := ⟨GWP.step h⟩
theorem GWP.rounds {P : Program} {r : Option Nat} {c : Code} {Q : Exit → VSt → Prop} {s : VSt} (n : Nat) (h : GRnd P r c Q n s) : GWP P r (.loop c) Q s := ⟨VWP.rounds n h.out⟩
theorem GQuo.t {a b : Int} {K : Int → Prop} (h : -9223372036854775807 ≤ a ∧ a ≤ 9223372036854775807) (k : K (a.tdiv b)) : GQuo .i64 a b K := ⟨by
  have h1 : (a.tdiv b).natAbs ≤ a.natAbs := by rw [Int.natAbs_tdiv]; exact Nat.div_le_self _ _
  rw [wrap_i64_id (by omega) (by omega)]
  exact k⟩
/-- Equality of values of more than one cell. -/
theorem GOp'.eqAg {P : Program} {o : Oper} {ts : List VV} {H : Heap} {K : VV → Heap → Prop} {op : BinOp} {t : TypeId} {x y : Operand} {p : TypeId} {us vs : List VV} {xs ys : List Value} {b : Bool} (ho : o.op = .binOp op t x y p) (hop : op = .eql ∨ op = .neq) (hx : veval ts x = .ag us) (hy : veval ts y = .ag vs) (hxs : plainL us = some xs) (hys : plainL vs = some ys)
    (hg : P.eqGuardType P.depth t = false) (he : ∀ w, (Op.equal t (.agg xs.toArray) (.agg ys.toArray)).run P w = .ok b w) (k : K (.sc (.bool (if op = .eql then b else !b))) H) : GOp' P o ts H K := ⟨⟨by
  refine VOne.exec' k (fun c e => by simp [ho] at e) fun av w Z ρ hr => ⟨_, ?_, .sc rfl⟩
  have e1 : av x = .agg xs.toArray := plain_eq (v := .ag us) (by simp only [plain, hxs]) (hx ▸ hr x)
  have e2 : av y = .agg ys.toArray := plain_eq (v := .ag vs) (by simp only [plain, hys]) (hy ▸ hr y)
  rcases hop with rfl | rfl
  · simp [execOp, ho, e1, e2, eqGuard, binOp, he, hg]
  · simp [execOp, ho, e1, e2, eqGuard, binOp, he, hg]⟩⟩
/-- Names nothing, at a glance. -/
def scB : VV → Bool
  | .sc _ => true
  | .junk => true
  | .tp [] => true
  | _ => false
theorem scB_nameless {v : VV} (h : scB v = true) : Nameless v := by
  unfold scB at h
  split at h
  · exact nameless_sc _
  · exact fun w Z ρ ρ' y _ => .junk
  · exact nameless_tp (by simp)
  · simp at h
theorem VOne.frozen {P : Program} {o : Oper} {ts : List VV} {H H' : Heap} {v u : VV} (ha : ∀ v ∈ ts, Nameless v) (h : vop P o ts ⟨[], 0⟩ = some (v, H')) (hf : Frz H' v u) : VOne P o ts H (fun x K => x = u ∧ K = H) := fun B M Z ρ a w rr KK QE h1 h2 h3 => by
  have hp : Pw (VRel w Z (fun _ => none)) ts a.tmps.toList := ⟨h2.1, fun i u c hu hc => ha u (List.mem_of_getElem? hu) _ _ _ _ _ (h2.2 i u c hu hc)⟩
  refine VOne.plain h w (fun _ => False) Z (fun _ => none) a w rr KK QE (rel_apart h1) hp ?_
  rintro v' x K' Z' ρ' w' ⟨rfl, rfl⟩ e1 r1 v1
  obtain ⟨e2, r2⟩ := h1.step (Z' := fun k => Z k ∨ (w.heap.size ≤ k ∧ k < w'.heap.size)) r1.os r1.tape r1.output r1.size (fun k hk => r1.frame k hk id) (fun _ h => .inl h) (fun _ h => h)
  refine h3 v' u H _ ρ w' ⟨rfl, rfl⟩ e2 r2 ?_
  refine (hf w w' Z' ρ' ρ v' r1 v1).zmono fun k hk => ?_
  rcases hk with hk | hk
  · rcases e1.znew k hk with h | h | h | h
    · exact .inl h
    · exact .inr ⟨h, r1.zlt k hk⟩
    · exact .inr ⟨h, r1.zlt k hk⟩
    · exact h.elim
  · exact .inr hk
/-- A slice that is built in a drawn region: rows that nobody writes. -/
theorem GOp.drawn {P : Program} {o : Oper} {ts : List VV} {H : Heap} {n z : Nat} {c : Option Nat} {vs : List VV} (ha : ts.all scB = true) (h : vop P o ts ⟨[], 0⟩ = some (.sl 0 0 n c z, ⟨[(0, .cells true vs)], 1⟩)) (hl : n * z ≤ vs.length) (hn : vs.all scB = true) :
    GOp P o ts H (fun x K' => Is x (.ro n (vs.take (n * z))) K' H) := ⟨by
  refine (VOne.frozen (u := .ro n (vs.take (n * z))) (fun v hv => scB_nameless (List.all_eq_true.1 ha v hv)) h ?_).mono fun x K' e => ⟨e.1, e.2⟩
  have := Frz.sl (K := ⟨[(0, .cells true vs)], 1⟩) (b := 0) (o := 0) (n := n) (z := z) (c := c) rfl (by omega) (fun v hv => scB_nameless (List.all_eq_true.1 hn v hv))
  rwa [List.drop_zero] at this⟩
theorem take_next {l : List UInt8} {j : Nat} {x : UInt8} (h : l[j]? = some x) : l.take (j + 1) = l.take j ++ [x] := by
  obtain ⟨hi, e⟩ := List.getElem?_eq_some_iff.1 h
  rw [List.take_succ_eq_append_getElem hi, e]
/-- Only so much is kept of a state: these temporaries, these blocks. -/
theorem GWP'.keep {P : Program} {r : Option Nat} {c : Code} {Q : Exit → VSt → Prop} {s : VSt} (l : List (Nat × VV)) (n : Nat) (O : List (Nat × VObj)) (nx : Nat) (hn : s.tmps.length = n) (hf : FitT l s.tmps) (hnx : s.heap.next = nx) (hg : Gets s.heap O) (h : forceT (frameT l n 0) fun ts => GWP P r c Q ⟨ts, ⟨O, nx⟩, s.marks⟩) : GWP' P r c Q s := ⟨⟨by
  rw [forceT_eq] at h
  refine VWP.weaken (s1 := ⟨frameT l n 0, ⟨O, nx⟩, s.marks⟩) rfl hnx.symm (fun b x h => (hg.get h).1) (fun w Z ρ cs hp => ⟨?_, ?_⟩) h.out
  · rw [frameT_length, ← hn]; exact hp.1
  · intro i u x hu hx
    simp only [frameT_get] at hu
    split at hu
    · simp at hu
      rcases lookT_cases l s.tmps i hf with e | e
      · rw [← hu, e]; exact .junk
      · exact hp.2 i u x (by rw [e, hu]) hx
    · simp at hu⟩⟩
theorem equal_call (a b : List UInt8) (H : Heap) : VCall Tryd.prog 54 [roB a, roB b] H (fun x K => x = booV (a == b) ∧ K = H) := by
  refine VCall.go Tryd.func54 rfl ?_
  repeat' (first|with_reducible refine And.intro ?_ ?_|((with_reducible intro hc);(try simp only [zA,zB,zC,zD,zE,zF,zG,zH,zI,zJ,zK,zL,zM,zN,zO,zP,zQ,zR,zS,zT,zU,zV,zW] at hc);(first|exact absurd rfl hc|exact absurd trivial hc|(exfalso;omega)|skip))|((conv => whnf);first|with_reducible refine And.intro ?_ ?_|refine ifB_intro ?_ ?_|refine xA (by omega) ?_|(refine xB ?_;intro kw hk1 hk2)|refine xC (by omega) ?_|refine xD ?_|refine xE (by omega) ?_|refine xF (by omega) ?_|refine xG ?_|refine xH ?_|refine xI (by omega) ?_|refine xJ (by omega) ?_|(with_reducible refine stopA ?_)|refine Exists.intro _ (And.intro (by first|exact vbytes_map a|exact vbytes_map b) ?_)|refine GOp.via (by rfl) ?_|(with_reducible first|refine stopO ?_|refine stopE ?_|refine stopD ?_|refine stopW ?_|refine stopG ?_|refine stopC ?_|refine stopR ?_)))
  all_goals (first|rw [List.length_map]|exact Done'.mk ⟨rfl,rfl⟩)
end Go.Proofs.YthjfobafdclafaaDoor

/- IndexByte, Index, Cut, At. -/
namespace Go.Proofs.YthjfobafdclafaaDoor
open Go Go.RowKit
set_option linter.unusedSimpArgs false
set_option linter.unusedVariables false
set_option maxRecDepth 100000
set_option maxHeartbeats 4000000
/-- The first place of a byte; -1: none. -/
def idxB (l : List UInt8) (b : UInt8) : Int := if l.contains b then (l.idxOf b : Int) else -1
theorem find_range {p : Nat → Bool} {q : UInt8 → Bool} : ∀ (l : List UInt8) (k : Nat), (∀ i (h : i < l.length), p (k + i) = q l[i]) → (List.range' k l.length).find? p = (l.findIdx? q).map (k + ·)
  | [], k, _ => rfl
  | a :: r, k, h => by
    have h0 := h 0 (by simp)
    simp only [Nat.add_zero, List.getElem_cons_zero] at h0
    have ih := find_range (p := p) (q := q) r (k + 1) (fun i hi => by
      have := h (i + 1) (by simpa using hi)
      rw [show k + 1 + i = k + (i + 1) by omega, this]
      rfl)
    rw [List.length_cons, List.range'_succ, List.find?_cons, List.findIdx?_cons, h0, ih]
    cases q a
    · simp only [Bool.false_eq_true, if_false]
      cases r.findIdx? q
      · rfl
      · simp only [Option.map_some]; congr 1; omega
    · simp
theorem find_idx (l : List UInt8) (b : UInt8) : (match (List.range (⟨l.toArray⟩ : ByteArray).size).find? (fun i => (⟨l.toArray⟩ : ByteArray)[i]! == b) with | some i => (i : Int) | none => -1) = idxB l b := by
  have h := find_range (p := fun i => (⟨l.toArray⟩ : ByteArray)[i]! == b) (q := fun x => x == b) l 0 (fun i hi => by
    have : (⟨l.toArray⟩ : ByteArray)[i]! = l[i] := by
      rw [getElem!_pos (⟨l.toArray⟩ : ByteArray) i (by exact hi)]
      rfl
    simp only [Nat.zero_add, this])
  rw [str_size, List.range_eq_range', h]
  unfold idxB
  by_cases hb : l.contains b = true
  · rw [if_pos hb]
    have : l.findIdx? (fun x => x == b) = some (l.idxOf b) := by
      rw [List.findIdx?_eq_some_iff_findIdx_eq]
      refine ⟨?_, rfl⟩
      exact List.findIdx_lt_length_of_exists ⟨b, by simpa using hb, by simp⟩
    rw [this]
    simp
  · rw [if_neg hb]
    have : l.findIdx? (fun x => x == b) = none := by
      rw [List.findIdx?_eq_none_iff]
      intro x hx
      simp only [beq_eq_false_iff_ne, ne_eq]
      rintro rfl
      exact hb (by simpa using hx)
    rw [this]
    rfl
theorem argB_roB (l : List UInt8) (H : Heap) : argB H (roB l) = some (.string ⟨l.toArray⟩) := by
  simp only [argB, roB, velems, List.length_map, Nat.mul_one, if_true, vbytes_map]
theorem ext_index (l : List UInt8) (b : UInt8) (H : Heap) : vextern Tryd.prog 65 [roB l, bV b] H = some (iV (idxB l b)) := by
  have hf := Tryd.func65
  have hr : extRow Tryd.f65.name = some Extern.BytealgIndexByte.indexByte := by kernel_rfl
  have hb : Tryd.f65.body = none := rfl
  have ho : Tryd.f65.origin = "" := rfl
  have hp : pureRun Tryd.prog (Extern.BytealgIndexByte.indexByte #[.string ⟨l.toArray⟩, .int .u8 (b.toNat : Int)]) = some (.int .i64 (idxB l b)) := by
    rw [← find_idx, ib_eq]
    have e1 : Extern.Bytes.bytesOf (.string ⟨l.toArray⟩) = pure ⟨l.toArray⟩ := rfl
    have e2 : Extern.Bytes.asByte (.int .u8 (b.toNat : Int)) = pure b := by
      show (pure ((b.toNat : Int).toNat.toUInt8) : Sem UInt8) = pure b
      congr 1
      simp
    rw [e1, e2]
    show pureRun Tryd.prog (match (List.range (⟨l.toArray⟩ : ByteArray).size).find? (fun i => (⟨l.toArray⟩ : ByteArray)[i]! == b) with
      | some i => pure (goInt i)
      | none => pure (goInt (-1))) = _
    cases (List.range (⟨l.toArray⟩ : ByteArray).size).find? (fun i => (⟨l.toArray⟩ : ByteArray)[i]! == b) <;> rfl
  simp only [vextern, hf, hb, ho, if_true, hr, bV, argB_roB]
  rw [hp]
  rfl
theorem indexByte_call (l : List UInt8) (b : UInt8) (H : Heap) : VCall Tryd.prog 61 [roB l, bV b] H (fun x K => x = iV (idxB l b) ∧ K = H) := by
  refine VCall.go Tryd.func61 rfl ?_
  repeat' (first|with_reducible refine And.intro ?_ ?_|((with_reducible intro hc);(try simp only [zA,zB,zC,zD,zE,zF,zG,zH,zI,zJ,zK,zL,zM,zN,zO,zP,zQ,zR,zS,zT,zU,zV,zW] at hc);(first|exact absurd rfl hc|exact absurd trivial hc|(exfalso;omega)|skip))|((conv => whnf);first|with_reducible refine And.intro ?_ ?_|refine ifB_intro ?_ ?_|refine xA (by omega) ?_|(refine xB ?_;intro kw hk1 hk2)|refine xC (by omega) ?_|refine xD ?_|refine xE (by omega) ?_|refine xF (by omega) ?_|refine xG ?_|refine xH ?_|refine xI (by omega) ?_|refine xJ (by omega) ?_|(with_reducible refine stopA ?_)|refine Exists.intro _ (And.intro (by rfl) ?_)|refine GOp.via (by rfl) ?_|(with_reducible first|refine stopO ?_|refine stopE ?_|refine stopD ?_|refine stopW ?_|refine stopG ?_|refine stopC ?_|refine stopR ?_)))
  refine GExt'.via (ext_index l b H) ?_
  repeat' (first|with_reducible refine And.intro ?_ ?_|((with_reducible intro hc);(try simp only [zA,zB,zC,zD,zE,zF,zG,zH,zI,zJ,zK,zL,zM,zN,zO,zP,zQ,zR,zS,zT,zU,zV,zW] at hc);(first|exact absurd rfl hc|exact absurd trivial hc|(exfalso;omega)|skip))|((conv => whnf);first|with_reducible refine And.intro ?_ ?_|refine ifB_intro ?_ ?_|refine xA (by omega) ?_|(refine xB ?_;intro kw hk1 hk2)|refine xC (by omega) ?_|refine xD ?_|refine xE (by omega) ?_|refine xF (by omega) ?_|refine xG ?_|refine xH ?_|refine xI (by omega) ?_|refine xJ (by omega) ?_|(with_reducible refine stopA ?_)|refine Exists.intro _ (And.intro (by rfl) ?_)|refine GOp.via (by rfl) ?_|(with_reducible first|refine stopO ?_|refine stopE ?_|refine stopD ?_|refine stopW ?_|refine stopG ?_|refine stopC ?_|refine stopR ?_)))
  exact Done'.mk ⟨rfl, rfl⟩
/-- A heap with one byte in it. -/
def H1 (b : UInt8) : Heap := ⟨[(0, .cells true [bV b])], 1⟩
end Go.Proofs.YthjfobafdclafaaDoor

/- Cut, At. -/
namespace Go.Proofs.YthjfobafdclafaaDoor
open Go Go.RowKit
set_option linter.unusedSimpArgs false
set_option linter.unusedVariables false
set_option maxRecDepth 100000
set_option maxHeartbeats 4000000
/-- What is ahead of the first b, what is behind it, and whether there is one. -/
def cutB (l : List UInt8) (b : UInt8) : List UInt8 × List UInt8 × Bool := if l.contains b then (l.take (l.idxOf b), l.drop (l.idxOf b + 1), true) else (l, [], false)
end Go.Proofs.YthjfobafdclafaaDoor

/- At. -/
namespace Go.Proofs.YthjfobafdclafaaDoor
open Go Go.RowKit
set_option linter.unusedSimpArgs false
set_option linter.unusedVariables false
set_option maxRecDepth 100000
set_option maxHeartbeats 4000000
/-- A call with less that is known of its arguments. -/
theorem VCall.less {P : Program} {f : FuncId} {args args' : List VV} {H : Heap} {Q : VV → Heap → Prop} (ha : ∀ w Z ρ cs, Pw (VRel w Z ρ) args cs → Pw (VRel w Z ρ) args' cs) (h : VCall P f args' H Q) : VCall P f args H Q := fun B M Z ρ w ra h1 h2 => h B M Z ρ w ra h1 (ha _ _ _ _ h2)
end Go.Proofs.YthjfobafdclafaaDoor

/- In, Digit, Number of the document. -/
namespace Go.Proofs.YthjfobafdclafaaDoor
open Go Go.RowKit
set_option linter.unusedSimpArgs false
set_option linter.unusedVariables false
set_option maxRecDepth 100000
set_option maxHeartbeats 4000000
theorem in_call (b : UInt8) (s : List UInt8) (H : Heap) (hs : s.length ≤ 4611686018427387904) : VCall Tryd.prog 59 [bV b, strV s] H (fun x K => x = booV (s.contains b) ∧ K = H) := by
  refine VCall.go Tryd.func59 rfl ?_
  repeat' (first|with_reducible refine And.intro ?_ ?_|((with_reducible intro hc);(try simp only [zA,zB,zC,zD,zE,zF,zG,zH,zI,zJ,zK,zL,zM,zN,zO,zP,zQ,zR,zS,zT,zU,zV,zW] at hc);(first|exact absurd rfl hc|exact absurd trivial hc|(exfalso;omega)|skip))|((conv => whnf);first|with_reducible refine And.intro ?_ ?_|refine ifB_intro ?_ ?_|refine xA (by omega) ?_|(refine xB ?_;intro kw hk1 hk2)|refine xC (by omega) ?_|refine xD ?_|refine xE (by omega) ?_|refine xF (by omega) ?_|refine xG ?_|refine xH ?_|refine xI (by omega) ?_|refine xJ (by omega) ?_|(with_reducible refine stopA ?_)|refine Exists.intro _ (And.intro (by rfl) ?_)|refine GOp.via (by rfl) ?_|(with_reducible first|refine stopO ?_|refine stopE ?_|refine stopD ?_|refine stopW ?_|refine stopG ?_|refine stopC ?_|refine stopR ?_)))
  refine GWP'.mk (GWP.loopK (α := Nat) (fun i => i ≤ s.length ∧ (s.drop i).contains b = s.contains b) (fun i => [(0, bV b), (1, strV s), (5, iV i)]) (fun _ => H) [] 17 (fun i => s.length - i) 0 ⟨Nat.zero_le _, rfl⟩ ⟨rfl, ⟨rfl, rfl, rfl, trivial⟩, rfl, rfl⟩ ?_)
  rintro i ⟨hi, hgo⟩
  obtain ⟨k5, e5, e51, e52⟩ := wrap_i64 ((i : Int) + 1)
  by_cases hil : i < s.length
  · have hb : ∃ c, s[i]? = some c := ⟨s[i], by simp⟩
    obtain ⟨c, hb⟩ := hb
    obtain ⟨h, e⟩ := List.getElem?_eq_some_iff.1 hb
    rw [List.drop_eq_getElem_cons h, e, List.contains_cons] at hgo
    repeat' (first|with_reducible refine And.intro ?_ ?_|((with_reducible intro hc);(try simp only [zA,zB,zC,zD,zE,zF,zG,zH,zI,zJ,zK,zL,zM,zN,zO,zP,zQ,zR,zS,zT,zU,zV,zW] at hc);(first|exact absurd rfl hc|exact absurd trivial hc|(exfalso;omega)|skip))|((conv => whnf);first|with_reducible refine And.intro ?_ ?_|refine ifB_intro ?_ ?_|refine xA (by omega) ?_|(refine xB ?_;intro kw hk1 hk2)|refine xC (by omega) ?_|refine xD ?_|refine xE (by omega) ?_|refine xF (by omega) ?_|refine xG ?_|refine xH ?_|refine xI (by omega) ?_|refine xJ (by omega) ?_|(with_reducible refine stopA ?_)|refine Exists.intro _ (And.intro (by first|exact hb|rfl) ?_)|refine GOp.via (by rfl) ?_|(with_reducible first|refine stopO ?_|refine stopE ?_|refine stopD ?_|refine stopW ?_|refine stopG ?_|refine stopC ?_|refine stopR ?_)))
    all_goals (first|omega|refine Done'.mk ?_)
    · have : c = b := UInt8.toNat_inj.1 (by omega)
      subst this
      rw [← hgo]
      exact ⟨by simp [booV], rfl⟩
    · have : (b == c) = false := by
        simp only [beq_eq_false_iff_ne, ne_eq]
        intro e
        subst e
        exact hc rfl
      rw [this, Bool.false_or] at hgo
      refine ⟨i + 1, ⟨by omega, hgo⟩, by omega, rfl, ⟨rfl, rfl, iv_eq ?_, trivial⟩, rfl, rfl⟩
      push_cast
      omega
  · repeat' (first|with_reducible refine And.intro ?_ ?_|((with_reducible intro hc);(try simp only [zA,zB,zC,zD,zE,zF,zG,zH,zI,zJ,zK,zL,zM,zN,zO,zP,zQ,zR,zS,zT,zU,zV,zW] at hc);(first|exact absurd rfl hc|exact absurd trivial hc|(exfalso;omega)|skip))|((conv => whnf);first|with_reducible refine And.intro ?_ ?_|refine ifB_intro ?_ ?_|refine xA (by omega) ?_|(refine xB ?_;intro kw hk1 hk2)|refine xC (by omega) ?_|refine xD ?_|refine xE (by omega) ?_|refine xF (by omega) ?_|refine xG ?_|refine xH ?_|refine xI (by omega) ?_|refine xJ (by omega) ?_|(with_reducible refine stopA ?_)|refine Exists.intro _ (And.intro (by first|rfl) ?_)|refine GOp.via (by rfl) ?_|(with_reducible first|refine stopO ?_|refine stopE ?_|refine stopD ?_|refine stopW ?_|refine stopG ?_|refine stopC ?_|refine stopR ?_)))
    all_goals (first|omega|refine Done'.mk ?_)
    have : i = s.length := by omega
    subst this
    rw [List.drop_length] at hgo
    exact ⟨by rw [← hgo]; rfl, rfl⟩
def digB (b : UInt8) : Bool := decide (48 ≤ b.toNat ∧ b.toNat ≤ 57)
theorem dig_eq (b : UInt8) : ([48, 49, 50, 51, 52, 53, 54, 55, 56, 57] : List UInt8).contains b = digB b := by
  unfold digB
  simp only [List.contains_cons, List.contains_nil, Bool.or_false]
  rw [Bool.eq_iff_iff]
  simp only [Bool.or_eq_true, beq_iff_eq, decide_eq_true_eq, ← UInt8.toNat_inj]
  simp
  omega
theorem ndigit_call (b : UInt8) (H : Heap) : VCall Tryd.prog 56 [bV b] H (fun x K => x = booV (decide (48 ≤ b.toNat ∧ b.toNat ≤ 57)) ∧ K = H) := by
  refine VCall.go Tryd.func56 rfl ?_
  repeat' (first|with_reducible refine And.intro ?_ ?_|((with_reducible intro hc);(try simp only [zA,zB,zC,zD,zE,zF,zG,zH,zI,zJ,zK,zL,zM,zN,zO,zP,zQ,zR,zS,zT,zU,zV,zW] at hc);(first|exact absurd rfl hc|exact absurd trivial hc|(exfalso;omega)|skip))|((conv => whnf);first|with_reducible refine And.intro ?_ ?_|refine ifB_intro ?_ ?_|refine xA (by omega) ?_|(refine xB ?_;intro kw hk1 hk2)|refine xC (by omega) ?_|refine xD ?_|refine xE (by omega) ?_|refine xF (by omega) ?_|refine xG ?_|refine xH ?_|refine xI (by omega) ?_|refine xJ (by omega) ?_|(with_reducible refine stopA ?_)|refine Exists.intro _ (And.intro (by rfl) ?_)|refine GOp.via (by rfl) ?_|(with_reducible first|refine stopO ?_|refine stopE ?_|refine stopD ?_|refine stopW ?_|refine stopG ?_|refine stopC ?_|refine stopR ?_)))
  refine GCall'.mk ((in_call b [48, 49, 50, 51, 52, 53, 54, 55, 56, 57] H (by simp)).mono ?_)
  rintro _ _ ⟨rfl, rfl⟩
  rw [dig_eq]
  repeat' (first|with_reducible refine And.intro ?_ ?_|((with_reducible intro hc);(try simp only [zA,zB,zC,zD,zE,zF,zG,zH,zI,zJ,zK,zL,zM,zN,zO,zP,zQ,zR,zS,zT,zU,zV,zW] at hc);(first|exact absurd rfl hc|exact absurd trivial hc|(exfalso;omega)|skip))|((conv => whnf);first|with_reducible refine And.intro ?_ ?_|refine ifB_intro ?_ ?_|refine xA (by omega) ?_|(refine xB ?_;intro kw hk1 hk2)|refine xC (by omega) ?_|refine xD ?_|refine xE (by omega) ?_|refine xF (by omega) ?_|refine xG ?_|refine xH ?_|refine xI (by omega) ?_|refine xJ (by omega) ?_|(with_reducible refine stopA ?_)|refine Exists.intro _ (And.intro (by rfl) ?_)|refine GOp.via (by rfl) ?_|(with_reducible first|refine stopO ?_|refine stopE ?_|refine stopD ?_|refine stopW ?_|refine stopG ?_|refine stopC ?_|refine stopR ?_)))
  exact ⟨rfl, rfl⟩
end Go.Proofs.YthjfobafdclafaaDoor

/- lower; At of the document. -/
namespace Go.Proofs.YthjfobafdclafaaDoor
open Go Go.RowKit
set_option linter.unusedSimpArgs false
set_option linter.unusedVariables false
set_option maxRecDepth 100000
set_option maxHeartbeats 4000000
theorem ext_str (l : List UInt8) (a b : Nat) : (⟨l.toArray⟩ : ByteArray).extract a b = ⟨((l.drop a).take (b - a)).toArray⟩ := by
  apply ByteArray.ext
  rw [ByteArray.data_extract]
  simp [List.extract_eq_take_drop]
theorem ext_eq {l m : List UInt8} {a b : Nat} (h : (l.drop a).take (b - a) = m) : VV.sc (.string ((⟨l.toArray⟩ : ByteArray).extract a b)) = strV m := by
  rw [ext_str, h]; rfl
theorem idx_at {l : List UInt8} {i : Nat} {b : UInt8} (hn : (l.take i).contains b = false) (h : l[i]? = some b) : l.contains b = true ∧ l.idxOf b = i := by
  obtain ⟨hi, e⟩ := List.getElem?_eq_some_iff.1 h
  have hs : l = l.take i ++ b :: l.drop (i + 1) := by
    rw [← e, ← List.drop_eq_getElem_cons hi, List.take_append_drop]
  have hm : ¬ b ∈ l.take i := by
    intro h
    have : (l.take i).contains b = true := by simpa using h
    rw [hn] at this
    cases this
  constructor
  · simp only [List.contains_eq_mem, decide_eq_true_eq]
    exact List.mem_of_getElem? h
  · rw [hs, List.idxOf_append, if_neg hm]
    simp
    omega
theorem take_nextC {l : List UInt8} {i : Nat} {b c : UInt8} (hn : (l.take i).contains b = false) (h : l[i]? = some c) (hc : ¬ c = b) : (l.take (i + 1)).contains b = false := by
  obtain ⟨hi, e⟩ := List.getElem?_eq_some_iff.1 h
  rw [List.take_succ_eq_append_getElem hi, e]
  simp at hn ⊢
  exact ⟨hn, fun q => hc q.symm⟩
theorem rat_call (l : List UInt8) (b : UInt8) (H : Heap) (hl : l.length ≤ 4611686018427387904) : VCall Tryd.prog 31 [strV l, bV b] H (fun x K => x = .tp [strV (cutB l b).1, strV (cutB l b).2.1, booV (cutB l b).2.2] ∧ K = H) := by
  refine VCall.go Tryd.func31 rfl ?_
  repeat' (first|with_reducible refine And.intro ?_ ?_|((with_reducible intro hc);(try simp only [zA,zB,zC,zD,zE,zF,zG,zH,zI,zJ,zK,zL,zM,zN,zO,zP,zQ,zR,zS,zT,zU,zV,zW] at hc);(first|exact absurd rfl hc|exact absurd trivial hc|(exfalso;omega)|skip))|((conv => whnf);first|with_reducible refine And.intro ?_ ?_|refine ifB_intro ?_ ?_|refine xA (by omega) ?_|(refine xB ?_;intro kw hk1 hk2)|refine xC (by omega) ?_|refine xD ?_|refine xE (by omega) ?_|refine xF (by omega) ?_|refine xG ?_|refine xH ?_|refine xI (by omega) ?_|refine xJ (by omega) ?_|(with_reducible refine stopA ?_)|refine Exists.intro _ (And.intro (by rfl) ?_)|refine GOp.via (by rfl) ?_|(with_reducible first|refine stopO ?_|refine stopE ?_|refine stopD ?_|refine stopW ?_|refine stopG ?_|refine stopC ?_|refine stopR ?_)))
  refine GWP'.mk (GWP.loopK (α := Nat) (fun i => i ≤ l.length ∧ (l.take i).contains b = false) (fun i => [(0, strV l), (1, bV b), (7, iV i)]) (fun _ => H) [] 27 (fun i => l.length - i) 0 ⟨Nat.zero_le _, by simp⟩ ⟨rfl, ⟨rfl, rfl, rfl, trivial⟩, rfl, rfl⟩ ?_)
  rintro i ⟨hi, hgo⟩
  by_cases hil : i < l.length
  · have hb : ∃ c, l[i]? = some c := ⟨l[i], by simp⟩
    obtain ⟨c, hb⟩ := hb
    repeat' (first|with_reducible refine And.intro ?_ ?_|((with_reducible intro hc);(try simp only [zA,zB,zC,zD,zE,zF,zG,zH,zI,zJ,zK,zL,zM,zN,zO,zP,zQ,zR,zS,zT,zU,zV,zW] at hc);(first|exact absurd rfl hc|exact absurd trivial hc|(exfalso;omega)|skip))|exact Is.mk rfl rfl|((conv => whnf);first|with_reducible refine And.intro ?_ ?_|exact Is.mk rfl rfl|(with_reducible apply Val.via)|refine ifB_intro ?_ ?_|refine xA (by omega) ?_|(refine xB ?_;intro kw hk1 hk2)|refine xC (by omega) ?_|refine xD ?_|refine xE (by omega) ?_|refine xF (by omega) ?_|refine xG ?_|refine xH ?_|refine xI (by omega) ?_|refine xJ (by omega) ?_|(with_reducible refine stopA ?_)|refine Exists.intro _ (And.intro (by (first|exact hb|rfl)) ?_)|refine GOp.drawn (by rfl) (by rfl) (Nat.le_of_ble_eq_true (by rfl)) (by rfl)|refine GOp.via (by rfl) ?_|(refine GWP.draw mixed _ (by kernel_rfl) (by rfl) ?_)|(with_reducible first|refine stopO ?_|refine stopE ?_|refine stopD ?_|refine stopW ?_|refine stopG ?_)|fail|(with_reducible refine stopC ?_)|(with_reducible refine stopR ?_)))
    all_goals (try simp only [str_size])
    all_goals (first|omega|refine Done'.mk ?_)
    · have : c = b := UInt8.toNat_inj.1 (by omega)
      subst this
      obtain ⟨h1, h2⟩ := idx_at hgo hb
      refine ⟨tp3 (ext_eq ?_) (ext_eq ?_) ?_, by trivial⟩
      · unfold cutB
        rw [if_pos h1, h2]
        simp
      · unfold cutB
        rw [if_pos h1, h2]
        have : ((i : Int) + 1).toNat = i + 1 := by omega
        rw [this, List.take_of_length_le (by simp [str_size])]
      · unfold cutB
        rw [if_pos h1]
        rfl
    · have hc' : ¬ c = b := fun e => hc (by rw [e])
      refine ⟨i + 1, ⟨by omega, take_nextC hgo hb hc'⟩, by omega, rfl, ⟨rfl, rfl, iv_eq ?_, trivial⟩, rfl, rfl⟩
      push_cast
      omega
  · repeat' (first|with_reducible refine And.intro ?_ ?_|((with_reducible intro hc);(try simp only [zA,zB,zC,zD,zE,zF,zG,zH,zI,zJ,zK,zL,zM,zN,zO,zP,zQ,zR,zS,zT,zU,zV,zW] at hc);(first|exact absurd rfl hc|exact absurd trivial hc|(exfalso;omega)|skip))|((conv => whnf);first|with_reducible refine And.intro ?_ ?_|refine ifB_intro ?_ ?_|refine xA (by omega) ?_|(refine xB ?_;intro kw hk1 hk2)|refine xC (by omega) ?_|refine xD ?_|refine xE (by omega) ?_|refine xF (by omega) ?_|refine xG ?_|refine xH ?_|refine xI (by omega) ?_|refine xJ (by omega) ?_|(with_reducible refine stopA ?_)|refine Exists.intro _ (And.intro (by rfl) ?_)|refine GOp.via (by rfl) ?_|(with_reducible first|refine stopO ?_|refine stopE ?_|refine stopD ?_|refine stopW ?_|refine stopG ?_|refine stopC ?_|refine stopR ?_)))
    all_goals (first|omega|refine Done'.mk ?_)
    have : i = l.length := by omega
    subst this
    rw [List.take_length] at hgo
    unfold cutB
    rw [if_neg (by rw [hgo]; simp)]
    exact ⟨rfl, rfl⟩
end Go.Proofs.YthjfobafdclafaaDoor

/- Calls that are given named blocks which stay as they are: what else they made is taken as rows that nobody writes any more. Over any program. -/
namespace Go.Proofs.YthjfobafdclafaaDoor
open Go Go.RowKit
set_option linter.unusedSimpArgs false
set_option linter.unusedVariables false
/-- As Frz, but names below n stand for what they stood for. -/
def FrzB (n : Nat) (K : Heap) (v u : VV) : Prop := ∀ (B w : World) (Z : Nat → Prop) (ρ ρ0 : Nat → Option (Nat × Nat)) (y : Value), Rel B (fun _ => False) Z ρ K w → (∀ b, b < n → ρ0 b = ρ b) → VRel w Z ρ v y → VRel w (fun k => Z k ∨ (B.heap.size ≤ k ∧ k < w.heap.size)) ρ0 u y
theorem Frz.toB {n : Nat} {K : Heap} {v u : VV} (h : Frz K v u) : FrzB n K v u := fun B w Z ρ ρ0 y hr _ hv => h B w Z ρ ρ0 y hr hv
theorem FrzB.sl {n b o m z : Nat} {c : Option Nat} {K : Heap} (hb : b < n) : FrzB n K (.sl b o m c z) (.sl b o m c z) := fun B w Z ρ ρ0 y hr he hv => by
  cases hv with
  | sl hk hn hc hz => exact .sl ((he b hb).trans hk) hn hc hz
theorem FrzB.of {n : Nat} {K : Heap} {v : VV} (h : Nameless v) : FrzB n K v v := (Frz.of h).toB
theorem FrzB.tp2 {n : Nat} {K : Heap} {a b c d : VV} (h : FrzB n K a c) (g : FrzB n K b d) : FrzB n K (.tp [a, b]) (.tp [c, d]) := fun B w Z ρ ρ0 y hr he hv => by
  cases hv with
  | @tp _ cs h1 r1 =>
    obtain ⟨cs⟩ := cs
    match cs, h1 with
    | [p, q], _ => exact VRel.tp' (Pw.cons (h B w Z ρ ρ0 p hr he (r1 0 _ _ rfl rfl)) (Pw.cons (g B w Z ρ ρ0 q hr he (r1 1 _ _ rfl rfl)) Pw.nil))
theorem VCall.trimB {P : Program} {f : FuncId} {args : List VV} {O1 : List (Nat × VObj)} {n1 : Nat} {Q : VV → Heap → Prop} {Q' : VV → Prop}
    (hO : ∀ b x, hget O1 b = some x → ∃ vs, (x = .cells true vs ∨ x = .opt vs) ∧ ∀ v ∈ vs, Nameless v) (h : VCall P f args ⟨O1, n1⟩ Q)
    (hv : ∀ v K, Q v K → (∀ b x, hget O1 b = some x → K.get b = some x) ∧ ∃ u, Q' u ∧ FrzB n1 ⟨restO (O1.map (·.1)) K.objs, K.next⟩ v u) :
    VCall P f args ⟨O1, n1⟩ (fun u K => Q' u ∧ K = ⟨O1, n1⟩) := fun B M Z ρ w ra h1 h2 => by
  refine (h w (Mine ⟨O1, n1⟩ ρ) Z ρ w ra (h1.part rfl fun _ _ h => h) h2).mono ?_
  rintro e w' ⟨v', v, K, Z', ρ', rfl, q, e1, r1, v1⟩
  obtain ⟨hk, u, q', hf⟩ := hv v K q
  have mine : ∀ k, Mine ⟨O1, n1⟩ ρ k → B.heap.size ≤ k ∨ M k := fun k ⟨b, x, N, m1, m2, m3⟩ => by
    obtain ⟨k', N', o, g1, g2, g3, g4, g5⟩ := h1.objK m1 m3
    rw [m3] at g1; injection g1 with g1; injection g1 with g1 g1'; subst g1
    exact g5 m2
  have zz : ∀ k, Z' k → Z k ∨ (w.heap.size ≤ k ∧ k < w'.heap.size) := fun k hkz => by
    rcases e1.znew k hkz with g | g | g | ⟨b, x, N, m1, m2, m3⟩
    · exact .inl g
    · exact .inr ⟨g, r1.zlt k hkz⟩
    · exact .inr ⟨g, r1.zlt k hkz⟩
    · obtain ⟨k', N', o, g1, g2, g3, g4, g5⟩ := r1.objK (hk b x m1) (e1.rsub _ _ m3)
      rw [e1.rsub _ _ m3] at g1; injection g1 with g1; injection g1 with g1 g1'; subst g1
      exact absurd hkz g4
  have hsz := e1.size
  refine ⟨v', u, ⟨O1, n1⟩, fun k => Z k ∨ (w.heap.size ≤ k ∧ k < w'.heap.size), ρ, rfl, ⟨q', rfl⟩, ⟨Nat.le_refl _, fun _ _ => rfl, fun _ h => .inl h, fun _ _ h => h, e1.keep, e1.size, fun k hk => hk.imp id fun q => .inl q.1⟩, ⟨h1.glob, r1.os.trans h1.os, r1.tape.trans h1.tape, r1.output.trans h1.output, Nat.le_trans h1.size r1.size, ?_, h1.dom, h1.live, h1.inj, ?_, ?_⟩, ?_⟩
  · intro k hkb hM
    have hs1 := h1.size
    rw [r1.frame k (by omega) (fun hm => (mine k hm).elim (fun q => by omega) hM)]
    exact h1.frame k hkb hM
  · intro b x hx
    rcases h1.obj b x hx with hg | ⟨k, N, o, g1, g2, g3, g4, g5⟩
    · exact .inl hg
    have hlt := h1.lt hx g1
    obtain ⟨k', N', o', f1, f2, f3, f4, f5⟩ := r1.objK (hk b x hx) (e1.rsub _ _ g1)
    have f0 := e1.rsub _ _ g1
    rw [f0] at f1; injection f1 with f1; injection f1 with f1 f1'; subst f1 f1'
    refine .inr ⟨k, N, o', g1, f2, ?_, fun hz => hz.elim g4 (fun q => by omega), g5⟩
    obtain ⟨vs, hx2, hn⟩ := hO b x hx
    rcases hx2 with rfl | rfl
    · obtain ⟨cs, t, fr, h0, h4, h2, h3⟩ := f3
      exact ⟨cs, t, fr, h0, h4, fun i u hu => let ⟨c, hc, hr⟩ := h2 i u hu; ⟨c, hc, (hn u (List.mem_of_getElem? hu) _ _ _ _ _ hr).zmono zz⟩, h3⟩
    · obtain ⟨cs, t, fr, h0, h4, h2, h3⟩ := f3
      exact ⟨cs, t, fr, h0, h4, fun i u hu => let ⟨c, hc, hr⟩ := h2 i u hu; ⟨c, hc, (hn u (List.mem_of_getElem? hu) _ _ _ _ _ hr).zmono zz⟩, h3⟩
  · intro k hkz
    rcases hkz with hkz | hkz
    · have := h1.zlt k hkz; omega
    · exact hkz.2
  · have hget : ∀ b, (⟨restO (O1.map (·.1)) K.objs, K.next⟩ : Heap).get b = match memN b (O1.map (·.1)) with
      | true => none
      | false => K.get b := fun b => hget_restO _ b _
    have hsub : ∀ b x, (⟨restO (O1.map (·.1)) K.objs, K.next⟩ : Heap).get b = some x → K.get b = some x ∧ memN b (O1.map (·.1)) = false := fun b x hx => by
      rw [hget] at hx
      split at hx
      · cases hx
      · rename_i hm; exact ⟨hx, hm⟩
    have hBs : ({ w' with heap := w'.heap.extract 0 w.heap.size } : World).heap.size = w.heap.size := by
      show (w'.heap.extract 0 w.heap.size).size = _
      rw [Array.size_extract]; omega
    have hBk : ∀ k, k < w.heap.size → ({ w' with heap := w'.heap.extract 0 w.heap.size } : World).heap[k]? = w'.heap[k]? := fun k hk => by
      show (w'.heap.extract 0 w.heap.size)[k]? = _
      rw [Array.getElem?_extract, if_pos (by omega), Nat.zero_add]
    have hr : Rel { w' with heap := w'.heap.extract 0 w.heap.size } (fun _ => False) Z' ρ' ⟨restO (O1.map (·.1)) K.objs, K.next⟩ w' := by
      refine ⟨fun w2 a b c d e => ?_, rfl, rfl, rfl, by rw [hBs]; exact hsz, fun k hk _ => (hBk k (by rw [hBs] at hk; exact hk)).symm, r1.dom, fun b x hx => r1.live b x (hsub b x hx).1, fun b b' k N N' x x' hx hx' => r1.inj b b' k N N' x x' (hsub b x hx).1 (hsub b' x' hx').1, fun b x hx => ?_, r1.zlt⟩
      · refine r1.glob w2 (a.trans r1.os) (b.trans r1.tape) (c.trans r1.output) (by rw [hBs] at d; exact d) fun k hk hm => ?_
        rw [e k (by rw [hBs]; exact hk) id, hBk k hk]
        exact r1.frame k hk hm
      · obtain ⟨hx1, hx2⟩ := hsub b x hx
        rcases r1.obj b x hx1 with hg | ⟨k, N, o, g1, g2, g3, g4, g5⟩
        · exact .inl hg
        refine .inr ⟨k, N, o, g1, g2, g3, g4, fun hrw => .inl ?_⟩
        rw [hBs]
        refine (g5 hrw).resolve_right ?_
        rintro ⟨b0, x0, N0, m1, m2, m3⟩
        have := r1.inj b b0 k N N0 x x0 hx1 (hk b0 x0 m1) g1 (e1.rsub _ _ m3)
        subst this
        have hin : b ∈ O1.map (·.1) := by
          have key : ∀ (l : List (Nat × VObj)), Go.Proofs.YthjfobafdclafaaDoor.hget l b = some x0 → b ∈ l.map (·.1) := by
            intro l
            induction l with
            | nil => intro h; simp [Go.Proofs.YthjfobafdclafaaDoor.hget] at h
            | cons p r ih =>
              obtain ⟨k, y⟩ := p
              intro h
              rw [hget_cons] at h
              split at h
              · rename_i e; subst e; simp
              · exact List.mem_cons_of_mem _ (ih h)
          exact key _ m1
        rw [memN_iff.2 hin] at hx2
        cases hx2
    refine (hf _ w' Z' ρ' ρ v' hr (fun b hb => (e1.rold b hb).symm) v1).zmono fun k hk => ?_
    rcases hk with hk | hk
    · exact zz k hk
    · rw [hBs] at hk; exact .inr hk
/-- A part of a slice of known place. -/
theorem GOp'.slQ {P : Program} {o : Oper} {ts : List VV} {H : Heap} {K : VV → Heap → Prop} {t e : TypeId} {x : Operand} {lo hi : Option Operand} {b q n l h : Nat} (ho : o.op = .slice t x lo hi none) (hu : P.underlying t = some (.slice e)) (hz : vsize P e = some 1) (hx : veval ts x = .sl b q n none 1) (hb : vbounds n n (lo.map (veval ts)) (hi.map (veval ts)) none = some (l, h, none)) (hlh : l ≤ h)
    (k : ∀ u, (u = .sl b (q + l) (h - l) none 1 ∨ (u = .ro 0 [] ∧ l = h ∧ 0 < l)) → K u H) : GOp' P o ts H K := by
  by_cases h0 : l = 0
  · subst h0
    refine GOp'.via (v := .sl b q h none 1) (H' := H) ?_ (k _ (.inl rfl))
    simp only [vop, ho, hx]
    simp [vslice, hu, hz, hb]
    rfl
  · by_cases hl : l = h
    · subst hl
      refine GOp'.via (v := .ro 0 []) (H' := H) ?_ (k _ (.inr ⟨rfl, rfl, by omega⟩))
      simp only [vop, ho, hx]
      simp [vslice, hu, hz, hb, h0]
      rfl
    · refine GOp'.via (v := .sl b (q + l * 1) (h - l) none 1) (H' := H) ?_ (k _ (.inl (by rw [Nat.mul_one])))
      simp only [vop, ho, hx]
      simp [vslice, hu, hz, hb, h0, show ¬ h = l by omega]
      rfl
end Go.Proofs.YthjfobafdclafaaDoor

