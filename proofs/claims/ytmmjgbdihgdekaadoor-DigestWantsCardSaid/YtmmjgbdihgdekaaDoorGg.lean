import Derived.Test.YtmmjgbdihgdekaaDoorGa
import Derived.Test.YtmmjgbdihgdekaaDoorG5
import Derived.Test.YtmmjgbdihgdekaaDoorE6
import Derived.Test.YtmmjgbdihgdekaaDoorGc
import Derived.Test.YtmmjgbdihgdekaaDoorGf
import Derived.Test.YtmmjgbdihgdekaaDoorG9
/- The want of a text, walked. -/
namespace Go.Proofs.YtmmjgbdihgdekaaDoor
open Go Go.RowKit
set_option linter.unusedSimpArgs false
set_option linter.unusedVariables false
set_option maxRecDepth 100000
set_option maxHeartbeats 4000000
theorem hasPrefix_call (t m : List UInt8) (H : Heap) {b : Nat} {vs : List VV} {n : Nat} {c0 : Option Nat} (hg : H.get b = some (.cells true vs)) (hv : vs = m.map bV) (hn : n = m.length) (ht : t.length ≤ 100000) : VCall Tryd.prog 110 [roB t, .sl b 0 n c0 1] H (fun x K => x = booV (m.isPrefixOf t) ∧ K = H) := by
  subst hv hn
  refine VCall.viewed (args' := [roB t, roB m]) (Q := fun v K => v = booV (m.isPrefixOf t)) (.cons (View.of (nameless_roB t)) (.cons ?_ .nil)) ?_ (fun v K e => by subst e; exact Frx.of (exact_sc _))
  · have := View.sl (H := H) (b := b) (o := 0) (n := m.length) (z := 1) (c := c0) hg (by simp) (nameless_map nameless_bV m)
    rw [List.drop_zero, Nat.mul_one, List.take_of_length_le (by simp)] at this
    unfold roB
    exact this
  · have hpre : m.length ≤ t.length → (t.take m.length == m) = m.isPrefixOf t := fun h => by
      rw [Bool.eq_iff_iff, List.isPrefixOf_iff_prefix, beq_iff_eq, List.prefix_iff_eq_take]
      exact eq_comm
    refine VCall.go Tryd.func110 rfl ?_
    repeat' (first | with_reducible refine And.intro ?_ ?_ | ((with_reducible intro hc); (try simp only [zA, zB, zC, zD, zE, zF, zG, zH, zI, zJ, zK, zL, zM, zN, zO, zP, zQ, zR, zS, zT, zU, zV, zW] at hc); (first | (exact absurd rfl hc) | (exact absurd trivial hc) | (exfalso; omega) | skip)) | ((conv => whnf); first | with_reducible refine And.intro ?_ ?_ | refine ifB_intro ?_ ?_ | refine xA (by omega) ?_ | ((refine xB ?_); intro kw hk1 hk2) | refine xC (by omega) ?_ | refine xD ?_ | refine xE (by omega) ?_ | refine xF (by omega) ?_ | refine xG ?_ | refine xH ?_ | refine xI (by omega) ?_ | refine xJ (by omega) ?_ | (with_reducible refine stopA ?_) | refine Exists.intro _ (And.intro (by rfl) ?_) | refine GOp.via (by rfl) ?_ | (with_reducible first | refine stopO ?_ | refine stopE ?_ | refine stopD ?_ | refine stopW ?_ | refine stopG ?_ | refine stopC ?_ | refine stopR ?_)))
    all_goals (first | omega | skip)
    · have e : VV.ro (((m.length : Int)).toNat - 0) (((t.map bV).drop (0 * 1)).take ((((m.length : Int)).toNat - 0) * 1)) = roB (t.take m.length) := by
        have := roB_slice (l := t) (z := 1) (i := 0) (j := m.length) rfl (by omega) (by omega)
        rw [Int.toNat_natCast, this, Nat.sub_zero, List.drop_zero]
      refine GCall'.mk (VCall.arg21 e ((equal_call (t.take m.length) m _).mono ?_))
      rintro _ _ ⟨rfl, rfl⟩
      rw [hpre (by omega)]
      repeat' (first | with_reducible refine And.intro ?_ ?_ | ((with_reducible intro hc); (try simp only [zA, zB, zC, zD, zE, zF, zG, zH, zI, zJ, zK, zL, zM, zN, zO, zP, zQ, zR, zS, zT, zU, zV, zW] at hc); (first | (exact absurd rfl hc) | (exact absurd trivial hc) | (exfalso; omega) | skip)) | ((conv => whnf); first | with_reducible refine And.intro ?_ ?_ | refine ifB_intro ?_ ?_ | refine xA (by omega) ?_ | ((refine xB ?_); intro kw hk1 hk2) | refine xC (by omega) ?_ | refine xD ?_ | refine xE (by omega) ?_ | refine xF (by omega) ?_ | refine xG ?_ | refine xH ?_ | refine xI (by omega) ?_ | refine xJ (by omega) ?_ | (with_reducible refine stopA ?_) | refine Exists.intro _ (And.intro (by rfl) ?_) | refine GOp.via (by rfl) ?_ | (with_reducible first | refine stopO ?_ | refine stopE ?_ | refine stopD ?_ | refine stopW ?_ | refine stopG ?_ | refine stopC ?_ | refine stopR ?_)))
      exact Done'.mk rfl
    · have : m.isPrefixOf t = false := by
        cases hh : m.isPrefixOf t
        · rfl
        · have := (List.isPrefixOf_iff_prefix.1 hh).length_le
          omega
      rw [this]
      exact Done'.mk rfl
def preB : List UInt8 := [115, 104, 97, 50, 53, 54, 45]
/-- What a piece wants. -/
def want1 (x : List UInt8) : Option (List UInt8) := if preB.isPrefixOf x then (match readP (x.drop 7) with
  | some b => if b.length = 32 then some b else none
  | none => none) else none
def wants (l : List UInt8) : List (List UInt8) := (fieldsB l).filterMap want1
def rowsB (ws : List (List UInt8)) : List VV := ws.flatMap fun w => w.map bV
def wantV (ws : List (List UInt8)) : VV := .ag [.ro ws.length (rowsB ws)]
theorem rowsB_nameless (ws : List (List UInt8)) : ∀ v ∈ rowsB ws, Nameless v := fun v hv => by
  obtain ⟨w, _, hv⟩ := List.mem_flatMap.1 hv
  exact nameless_map nameless_bV w v hv
theorem nameless_wantV (ws : List (List UInt8)) : Nameless (wantV ws) := nameless_ag (by
  simp only [List.mem_singleton, forall_eq]
  exact nameless_ro (rowsB_nameless ws))
theorem rowsB_len {ws : List (List UInt8)} (h : ∀ w ∈ ws, w.length = 32) : (rowsB ws).length = ws.length * 32 := by
  unfold rowsB
  induction ws with
  | nil => rfl
  | cons w r ih =>
    have h1 := h w (by simp)
    rw [List.flatMap_cons, List.length_append, ih (fun x hx => h x (by simp [hx])), List.length_map, h1, List.length_cons]
    omega
theorem rowsB_snoc (ws : List (List UInt8)) (w : List UInt8) : rowsB (ws ++ [w]) = rowsB ws ++ w.map bV := by
  unfold rowsB; simp
theorem sty_32 : SlTy Tryd.prog 24 32 32 := ⟨⟨_, _, _, rfl, rfl, rfl, rfl, rfl, rfl⟩⟩
theorem hasPre_call {H : Heap} {b : Nat} (x : List UInt8) (hx : x.length ≤ 100000) (hg : H.get b = some (.cells true (preB.map bV))) : VCall Tryd.prog 110 [roB x, .sl b 0 7 (some 7) 1] H (fun v K => v = booV (preB.isPrefixOf x) ∧ K = H) :=
  hasPrefix_call x preB H hg rfl rfl hx
end Go.Proofs.YtmmjgbdihgdekaaDoor

/- A slice of one array, built in a drawn region. -/
namespace Go.Proofs.YtmmjgbdihgdekaaDoor
open Go Go.RowKit
set_option linter.unusedSimpArgs false
set_option linter.unusedVariables false
theorem GWP.drawF {P : Program} {r : Option Nat} {id : Nat} {ops : Array Oper} {Q : Exit → VSt → Prop} {s : VSt} (hm : P.follows .mixedOrders = true) (al m n : Nat) (va : VV) (f : Heap → Heap) (hb : (backN 0 ops.toList && nodupN (dstsOf ops.toList) && fitN n ops && tailB ops.toList al m && Nat.blt al m) = true) (hlen : s.tmps.length = n)
    (h : match s with | ⟨ts0, H, md⟩ => forceNL (ancIn ops.toList m [m]) fun an => wdrawE P ops ts0 al m an va H (f H) (fun V H' => tAllE ops.toList V ts0 fun ts => Q .normal ⟨ts, H', md⟩) 0 ops.toList []) : GWP P r (.region id ops true) Q s := by
  obtain ⟨ts0, H, md⟩ := s
  exact GWP.drawE hm al m n va (f H) hb hlen h
theorem GOp.drawnA {o : Oper} {ts : List VV} {H : Heap} {i : Nat} {b : List UInt8} (ho : o.op = .buildSlice 24 1 #[(0, .tmp i)]) (hx : ts[i]? = some (.ag (b.map bV))) (ha : (ts.set i .junk).all scB = true) (h32 : b.length = 32) :
    GOp Tryd.prog o ts H (fun x K' => Is x (.ro 1 (b.map bV)) K' H) := ⟨by
  have hv : vop Tryd.prog o ts ⟨[], 0⟩ = some (.sl 0 0 1 (some 1) 32, ⟨[(0, .cells true (b.map bV))], 1⟩) := by
    have hz : vsize Tryd.prog 34 = some 32 := by kernel_rfl
    have hl : vzero Tryd.prog 34 = some (List.replicate 32 (.sc (.int .u8 0))) := by kernel_rfl
    have he : veval ts (.tmp i) = .ag (b.map bV) := by simp only [veval, hx, Option.getD_some]
    have h1 : cellsOf (.ag (b.map bV)) = some (b.map bV) := by
      unfold cellsOf
      simp only [one_map]
    have h3 : vzeros (List.replicate 32 (.sc (.int .u8 0))) (1 * 32) = List.replicate 32 (.sc (.int .u8 0)) := by kernel_rfl
    have hs : setRun (List.replicate 32 (.sc (.int .u8 0))) (0 * 32) (b.map bV) = b.map bV := by
      rw [Nat.zero_mul]
      exact setRun_full (by simp [h32])
    simp only [vop, ho, vbuildSlice, Tryd.underlying24, hz, hl, List.map_cons, List.map_nil, he, vfill, h1, h3, hs, List.length_map, h32, List.length_replicate]
    rfl
  have hn : ∀ v ∈ ts, Nameless v := fun v hv => by
    obtain ⟨j, hj, e⟩ := List.mem_iff_getElem.1 hv
    by_cases hji : j = i
    · subst hji
      rw [List.getElem?_eq_getElem hj, e] at hx
      injection hx with hx
      subst hx
      exact nameless_ag (nameless_map nameless_bV b)
    · refine scB_nameless (List.all_eq_true.1 ha v ?_)
      refine List.mem_iff_getElem.2 ⟨j, by simpa using hj, ?_⟩
      rw [List.getElem_set_ne (fun h => hji h.symm)]
      exact e
  refine (VOne.frozen (u := .ro 1 (b.map bV)) hn hv ?_).mono fun x K' e => ⟨e.1, e.2⟩
  have := Frz.sl (K := ⟨[(0, .cells true (b.map bV))], 1⟩) (b := 0) (o := 0) (n := 1) (z := 32) (c := some 1) rfl (by simp [h32]) (nameless_map nameless_bV b)
  rw [List.drop_zero, List.take_of_length_le (by simp [h32])] at this
  exact this⟩
end Go.Proofs.YtmmjgbdihgdekaaDoor

/- Whether bytes meet a want, walked. -/
namespace Go.Proofs.YtmmjgbdihgdekaaDoor
open Go Go.RowKit
set_option linter.unusedSimpArgs false
set_option linter.unusedVariables false
set_option maxRecDepth 100000
set_option maxHeartbeats 4000000
theorem rowsB_append (a b : List (List UInt8)) : rowsB (a ++ b) = rowsB a ++ rowsB b := by
  unfold rowsB; simp
theorem vat_rowsB {ws : List (List UInt8)} {i q : Nat} {w : List UInt8} (hws : ∀ w ∈ ws, w.length = 32) (h : ws[i]? = some w) (hq : q = i * 32) : vat Tryd.prog 34 (rowsB ws) q = some (.ag (w.map bV)) := by
  subst hq
  obtain ⟨hi, e⟩ := List.getElem?_eq_some_iff.1 h
  have e1 : ws = ws.take i ++ (w :: ws.drop (i + 1)) := by
    rw [← e, ← List.drop_eq_getElem_cons hi, List.take_append_drop]
  have e2 : (rowsB (ws.take i)).length = i * 32 := by
    rw [rowsB_len (fun x hx => hws x (List.mem_of_mem_take hx)), List.length_take, Nat.min_eq_left (by omega)]
  have e3 : rowsB ws = rowsB (ws.take i) ++ (w.map bV ++ rowsB (ws.drop (i + 1))) := by
    conv => lhs; rw [e1]
    rw [rowsB_append]
    rfl
  have hw : (w.map bV).length = 32 := by
    rw [List.length_map]
    exact hws w (List.mem_of_getElem? h)
  have h0 : vagg Tryd.prog 34 = some true := by kernel_rfl
  have hz : vsize Tryd.prog 34 = some 32 := by kernel_rfl
  have hl := rowsB_len hws
  have h2 : Nat.ble (i * 32 + 32) (rowsB ws).length = true := Nat.ble_eq_true_of_le (by omega)
  simp only [vat, h0, hz, h2]
  rw [e3, ← e2, List.drop_left, ← hw, List.take_left]
def meetsB (ws : List (List UInt8)) (d : List UInt8) : Bool := ws.any (fun w => w == d) || ws.isEmpty
theorem meets_call (ws : List (List UInt8)) (x : List UInt8) (H : Heap) (hws : ∀ w ∈ ws, w.length = 32) (hn : ws.length ≤ 1000) (hx : x.length ≤ 1000) : VCall Tryd.prog 19 [wantV ws, roB x] H (fun v K => v = booV (meetsB ws (sha x)) ∧ K = H) := by
  refine VCall.pure (by simp [nameless_roB, nameless_wantV]) (nameless_sc _) ?_
  have hsum := fun H => sum_call x (by omega) H
  have hbl : (sha x).length = 32 := sha_len x
  generalize sha x = d at *
  have hb1 := one_map d
  have h32 : (d.map bV).length = 32 := by rw [List.length_map, hbl]
  refine VCall.go Tryd.func19 rfl ?_
  repeat' (first | with_reducible refine And.intro ?_ ?_ | ((with_reducible intro hc); (try simp only [zA, zB, zC, zD, zE, zF, zG, zH, zI, zJ, zK, zL, zM, zN, zO, zP, zQ, zR, zS, zT, zU, zV, zW] at hc); (first | (exact absurd rfl hc) | (exact absurd trivial hc) | (exfalso; omega) | skip)) | ((conv => whnf); first | with_reducible refine And.intro ?_ ?_ | refine ifB_intro ?_ ?_ | refine xA (by omega) ?_ | ((refine xB ?_); intro kw hk1 hk2) | refine xC (by omega) ?_ | refine xD ?_ | refine xE (by omega) ?_ | refine xF (by omega) ?_ | refine xG ?_ | refine xH ?_ | refine xI (by omega) ?_ | refine xJ (by omega) ?_ | (with_reducible refine stopA ?_) | refine Exists.intro _ (And.intro (by rfl) ?_) | (refine GOp.stA (vs := d.map bV) (by rfl) (by rfl) (by rfl) (by rfl) (by rfl) h32 hb1 ?_) | refine GOp.via (by rfl) ?_ | (with_reducible first | refine stopO ?_ | refine stopE ?_ | refine stopD ?_ | refine stopW ?_ | refine stopG ?_) | (refine GCall.mk ((hsum _).mono ?_); rintro _ _ ⟨rfl, rfl⟩) | (with_reducible refine stopC ?_) | (with_reducible refine stopR ?_)))
  (refine GWP'.mk (GWP.loopB [] (fun (i : Nat) => i ≤ ws.length ∧ ∀ w ∈ ws.take i, w ≠ d) (fun i => [(13, iV i)]) (fun i => []) 2 (fun i => ws.length - i) 0 ⟨Nat.zero_le _, by simp⟩ ?_); (conv => whnf); refine And.intro ?_ ?_)
  · focus (refine KeptA.of [] rfl rfl (by repeat' (first | exact trivial | refine And.intro rfl ?_)) rfl ?_ ?_; all_goals (repeat' (first | exact trivial | (refine And.intro ?_ ?_) | (refine Exists.intro _ (And.intro rfl ?_)) | (refine RenO.opt ?_) | (refine RenO.toOpt ?_) | (refine RenO.cells ?_) | exact RenO.defs | exact RenL.nil | (refine RenL.cons ?_ ?_) | (first | fail | (with_reducible exact RenV.sc) | exact RenV.gsN | exact RenV.gsZ | exact RenV.gsL (by decide) | exact RenV.slL (by decide) | ((first | refine RenV.gsE (by (first | exact List.Mem.head _ | exact List.Mem.tail _ (List.Mem.head _) | exact List.Mem.tail _ (List.Mem.tail _ (List.Mem.head _)) | (simp; done))) ?_ | refine RenV.eq (scI_eq ?_) (nameless_sc _)); (first | rfl | omega | (simp only [List.length_append, List.length_cons, List.length_nil, List.length_map, List.length_take, List.length_drop] <;> omega) | (simp only <;> omega) | (simp <;> omega))) | exact RenV.undef) | (with_unfolding_all exact (rfl : (_ : VObj) = _)))))
  rintro i ⟨hi, hno⟩
  simp only at hi hno ⊢
  by_cases hil : i < ws.length
  · obtain ⟨w, hw⟩ : ∃ w, ws[i]? = some w := ⟨ws[i], List.getElem?_eq_getElem hil⟩
    have hwm : w ∈ ws := List.mem_of_getElem? hw
    have hwl := hws w hwm
    have hwb := one_map w
    have hw32 : (w.map bV).length = 32 := by rw [List.length_map, hwl]
    have htk : ws.take (i + 1) = ws.take i ++ [w] := by
      obtain ⟨hi2, e⟩ := List.getElem?_eq_some_iff.1 hw
      rw [List.take_succ_eq_append_getElem hi2, e]
    repeat' (first | with_reducible refine And.intro ?_ ?_ | ((with_reducible intro hc); (try simp only [zA, zB, zC, zD, zE, zF, zG, zH, zI, zJ, zK, zL, zM, zN, zO, zP, zQ, zR, zS, zT, zU, zV, zW] at hc); (first | (exact absurd rfl hc) | (exact absurd trivial hc) | (exfalso; omega) | skip)) | ((conv => whnf); first | with_reducible refine And.intro ?_ ?_ | refine ifB_intro ?_ ?_ | refine xA (by omega) ?_ | ((refine xB ?_); intro kw hk1 hk2) | refine xC (by omega) ?_ | refine xD ?_ | refine xE (by omega) ?_ | refine xF (by omega) ?_ | refine xG ?_ | refine xH ?_ | refine xI (by omega) ?_ | refine xJ (by omega) ?_ | (with_reducible refine stopA ?_) | refine Exists.intro _ (And.intro (by (first | exact vat_rowsB hws hw rfl | exact vat_arr h32 rfl | exact vat_arr hw32 rfl | rfl)) ?_) | (refine GOp.stA (vs := w.map bV) (by rfl) (by rfl) (by rfl) (by rfl) (by rfl) hw32 hwb ?_) | refine GOp.via (by rfl) ?_ | (with_reducible first | refine stopO ?_ | refine stopE ?_ | refine stopD ?_ | refine stopW ?_ | refine stopG ?_) | (refine stopO (GOp'.eq32 (a := w) (b := d) rfl (.inl rfl) rfl rfl hwl hbl ?_)) | (with_reducible refine stopC ?_) | (with_reducible refine stopR ?_)))
    all_goals (first | omega | skip)
    refine GOp'.eq32 (a := w) (b := d) rfl (.inl rfl) rfl rfl hwl hbl ?_
    repeat' (first | with_reducible refine And.intro ?_ ?_ | ((with_reducible intro hc); (try simp only [zA, zB, zC, zD, zE, zF, zG, zH, zI, zJ, zK, zL, zM, zN, zO, zP, zQ, zR, zS, zT, zU, zV, zW] at hc); (first | (exact absurd rfl hc) | (exact absurd trivial hc) | (exfalso; omega) | skip)) | exact Is.mk rfl rfl | ((conv => whnf); first | with_reducible refine And.intro ?_ ?_ | with_reducible intro hx | exact Is.mk rfl rfl | (with_reducible first | apply Val.via | apply ValH.via) | refine ifB_intro ?_ ?_ | refine xA (by omega) ?_ | ((refine xB ?_); intro kw hk1 hk2) | refine xC (by omega) ?_ | refine xD ?_ | refine xE (by omega) ?_ | refine xF (by omega) ?_ | refine xG ?_ | refine xH ?_ | refine xI (by omega) ?_ | refine xJ (by omega) ?_ | (with_reducible refine stopA ?_) | refine Exists.intro _ (And.intro (by (first | exact vat_of rfl rfl rfl | rfl)) ?_) | refine GOp.drawn (by rfl) (by rfl) (Nat.le_of_ble_eq_true (by rfl)) (by rfl) | refine GOp.via (by rfl) ?_ | refine GWP.drawY mixed _ (by kernel_rfl) (by rfl) ?_ | fail | (with_reducible first | refine stopO ?_ | refine stopE ?_ | refine stopD ?_ | refine stopW ?_ | refine stopG ?_ | refine stopC ?_ | refine stopR ?_)))
    all_goals (first | omega | skip)
    · have hm : meetsB ws d = true := by
        unfold meetsB
        rw [Bool.or_eq_true]
        exact .inl (List.any_eq_true.2 ⟨w, hwm, by simpa using hc⟩)
      exact Done'.mk (by rw [hm]; rfl)
    · focus (refine Done'.mk ⟨(i + 1), ⟨by omega, by intro y hy; rw [htk] at hy; rcases List.mem_append.1 hy with h | h; exact hno y h; rw [List.mem_singleton.1 h]; simpa using hc⟩, ?_, KeptA.of [] rfl rfl (by repeat' (first | exact trivial | refine And.intro rfl ?_)) rfl ?_ ?_⟩; (first | omega | (simp only; omega)); all_goals (repeat' (first | exact trivial | (refine And.intro ?_ ?_) | (refine Exists.intro _ (And.intro rfl ?_)) | (refine RenO.opt ?_) | (refine RenO.toOpt ?_) | (refine RenO.cells ?_) | exact RenO.defs | exact RenL.nil | (refine RenL.cons ?_ ?_) | (first | fail | (with_reducible exact RenV.sc) | exact RenV.gsN | exact RenV.gsZ | exact RenV.gsL (by decide) | exact RenV.slL (by decide) | ((first | refine RenV.gsE (by (first | exact List.Mem.head _ | exact List.Mem.tail _ (List.Mem.head _) | exact List.Mem.tail _ (List.Mem.tail _ (List.Mem.head _)) | (simp; done))) ?_ | refine RenV.eq (scI_eq ?_) (nameless_sc _)); (first | rfl | omega | (simp only [List.length_append, List.length_cons, List.length_nil, List.length_map, List.length_take, List.length_drop] <;> omega) | (simp only <;> omega) | (simp <;> omega))) | exact RenV.undef) | (with_unfolding_all exact (rfl : (_ : VObj) = _)))))
  · obtain rfl : i = ws.length := by omega
    rw [List.take_length] at hno
    cases ws with
    | nil =>
      repeat' (first | with_reducible refine And.intro ?_ ?_ | ((with_reducible intro hc); (try simp only [zA, zB, zC, zD, zE, zF, zG, zH, zI, zJ, zK, zL, zM, zN, zO, zP, zQ, zR, zS, zT, zU, zV, zW] at hc); (first | (exact absurd rfl hc) | (exact absurd trivial hc) | (exfalso; omega) | skip)) | exact Is.mk rfl rfl | ((conv => whnf); first | with_reducible refine And.intro ?_ ?_ | with_reducible intro hx | exact Is.mk rfl rfl | (with_reducible first | apply Val.via | apply ValH.via) | refine ifB_intro ?_ ?_ | refine xA (by omega) ?_ | ((refine xB ?_); intro kw hk1 hk2) | refine xC (by omega) ?_ | refine xD ?_ | refine xE (by omega) ?_ | refine xF (by omega) ?_ | refine xG ?_ | refine xH ?_ | refine xI (by omega) ?_ | refine xJ (by omega) ?_ | (with_reducible refine stopA ?_) | refine Exists.intro _ (And.intro (by rfl) ?_) | refine GOp.drawn (by rfl) (by rfl) (Nat.le_of_ble_eq_true (by rfl)) (by rfl) | refine GOp.via (by rfl) ?_ | refine GWP.drawY mixed _ (by kernel_rfl) (by rfl) ?_ | fail | (with_reducible first | refine stopO ?_ | refine stopE ?_ | refine stopD ?_ | refine stopW ?_ | refine stopG ?_ | refine stopC ?_ | refine stopR ?_)))
      all_goals (first | omega | exact Done'.mk rfl | skip)
    | cons a r =>
      have hl : (a :: r).length = r.length + 1 := rfl
      have hm : meetsB (a :: r) d = false := by
        unfold meetsB
        rw [Bool.or_eq_false_iff]
        exact ⟨List.any_eq_false.2 fun w hw => by simpa using hno w hw, rfl⟩
      repeat' (first | with_reducible refine And.intro ?_ ?_ | ((with_reducible intro hc); (try simp only [zA, zB, zC, zD, zE, zF, zG, zH, zI, zJ, zK, zL, zM, zN, zO, zP, zQ, zR, zS, zT, zU, zV, zW] at hc); (first | (exact absurd rfl hc) | (exact absurd trivial hc) | (exfalso; omega) | skip)) | exact Is.mk rfl rfl | ((conv => whnf); first | with_reducible refine And.intro ?_ ?_ | with_reducible intro hx | exact Is.mk rfl rfl | (with_reducible first | apply Val.via | apply ValH.via) | refine ifB_intro ?_ ?_ | refine xA (by omega) ?_ | ((refine xB ?_); intro kw hk1 hk2) | refine xC (by omega) ?_ | refine xD ?_ | refine xE (by omega) ?_ | refine xF (by omega) ?_ | refine xG ?_ | refine xH ?_ | refine xI (by omega) ?_ | refine xJ (by omega) ?_ | (with_reducible refine stopA ?_) | refine Exists.intro _ (And.intro (by rfl) ?_) | refine GOp.drawn (by rfl) (by rfl) (Nat.le_of_ble_eq_true (by rfl)) (by rfl) | refine GOp.via (by rfl) ?_ | refine GWP.drawY mixed _ (by kernel_rfl) (by rfl) ?_ | fail | (with_reducible first | refine stopO ?_ | refine stopE ?_ | refine stopD ?_ | refine stopW ?_ | refine stopG ?_ | refine stopC ?_ | refine stopR ?_)))
      all_goals (first | omega | skip)
      exact Done'.mk (by rw [hm]; rfl)
end Go.Proofs.YtmmjgbdihgdekaaDoor

/- What own texts want. -/
namespace Go.Proofs.YtmmjgbdihgdekaaDoor
open Go Go.RowKit
set_option linter.unusedSimpArgs false
set_option linter.unusedVariables false
theorem sgn_blank (n : Nat) : blankB (sgn n) = false := by
  unfold sgn
  cases h : sgnT[n]? with
  | none => rfl
  | some c =>
    have hall : sgnT.all (fun c => !blankB c) = true := by decide
    have := List.all_eq_true.1 hall c (List.mem_of_getElem? h)
    simpa using this
theorem b64_blank : ∀ (l : List UInt8), ∀ c ∈ b64 l, blankB c = false
  | a :: b :: c :: r => fun x hx => by
    have e : b64 (a :: b :: c :: r) = sgn (a.toNat / 4) :: sgn (a.toNat % 4 * 16 + b.toNat / 16) :: sgn (b.toNat % 16 * 4 + c.toNat / 64) :: sgn (c.toNat % 64) :: b64 r := by cases r <;> rfl
    rw [e] at hx
    simp only [List.mem_cons] at hx
    rcases hx with rfl | rfl | rfl | rfl | hx
    · exact sgn_blank _
    · exact sgn_blank _
    · exact sgn_blank _
    · exact sgn_blank _
    · exact b64_blank r x hx
  | [a, b] => fun x hx => by
    simp only [b64, List.mem_cons, List.not_mem_nil, or_false] at hx
    rcases hx with rfl | rfl | rfl | rfl
    · exact sgn_blank _
    · exact sgn_blank _
    · exact sgn_blank _
    · rfl
  | [a] => fun x hx => by
    simp only [b64, List.mem_cons, List.not_mem_nil, or_false] at hx
    rcases hx with rfl | rfl | rfl | rfl
    · exact sgn_blank _
    · exact sgn_blank _
    · rfl
    · rfl
  | [] => fun x hx => by simp [b64] at hx
theorem fieldsGo_run {r : List UInt8} : ∀ (w cur : List UInt8), (∀ c ∈ w, blankB c = false) → fieldsGo (w ++ r) cur = fieldsGo r (cur ++ w)
  | [], cur, _ => by simp
  | c :: w, cur, h => by
    have hc := h c (by simp)
    rw [List.cons_append, fieldsGo, if_neg (by rw [hc]; simp), fieldsGo_run w (cur ++ [c]) (fun x hx => h x (by simp [hx]))]
    simp
/-- A sum's own text. -/
def ownT (s : List UInt8) : List UInt8 := preB ++ b64 s
theorem ownT_blank (s : List UInt8) : ∀ c ∈ ownT s, blankB c = false := fun c hc => by
  unfold ownT at hc
  rcases List.mem_append.1 hc with h | h
  · have hall : preB.all (fun c => !blankB c) = true := by decide
    have := List.all_eq_true.1 hall c h
    simpa using this
  · exact b64_blank s c h
theorem ownT_pos (s : List UInt8) : ¬ (ownT s).length = 0 := by
  unfold ownT preB
  simp
theorem want1_own {s : List UInt8} (h : s.length = 32) : want1 (ownT s) = some s := by
  have h1 : preB.isPrefixOf (ownT s) = true := List.isPrefixOf_iff_prefix.2 ⟨b64 s, rfl⟩
  have h2 : (ownT s).drop 7 = b64 s := rfl
  unfold want1
  rw [h1, h2, readP_b64]
  simp [h]
theorem ownT_len (s : List UInt8) : (ownT s).length ≤ 2 * s.length + 11 := by
  have := b64_len s
  unfold ownT preB
  simp
  omega
end Go.Proofs.YtmmjgbdihgdekaaDoor

