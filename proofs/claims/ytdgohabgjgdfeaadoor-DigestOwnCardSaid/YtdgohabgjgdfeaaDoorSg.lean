/- What the laws need of the sum. -/
import Derived.Test.YtdgohabgjgdfeaaDoorSd
import Derived.Stop.BytesEq
namespace Go.Proofs.YtdgohabgjgdfeaaDoor
open Go Go.RowKit
set_option linter.unusedSimpArgs false
set_option linter.unusedVariables false
set_option maxRecDepth 100000
set_option maxHeartbeats 4000000
theorem plainL_bytes : ∀ (a : List UInt8), plainL (a.map bV) = some (a.map Extern.Stop.cell)
  | [] => rfl
  | x :: r => by
    simp only [List.map_cons, plainL, bV, plainL_bytes r]
    rfl
theorem GOp'.eq32 {o : Oper} {ts : List VV} {H : Heap} {K : VV → Heap → Prop} {op : BinOp} {x y : Operand} {p : TypeId} {a b : List UInt8} (ho : o.op = .binOp op 32 x y p) (hop : op = .eql ∨ op = .neq) (hx : veval ts x = .ag (a.map bV)) (hy : veval ts y = .ag (b.map bV)) (ha : a.length = 32) (hb : b.length = 32)
    (k : K (.sc (.bool (if op = .eql then (a == b) else !(a == b)))) H) : GOp' Tryd.prog o ts H K :=
  GOp'.eqAg ho hop hx hy (plainL_bytes a) (plainL_bytes b) (by kernel_rfl) (fun w => run_equalIn_bytes w 9998 32 5 32 Tryd.underlying32 Tryd.underlying5 (fun w => run_sizeOf (by kernel_rfl) w) a b ha hb) k
/-- The sum of a slice that has its bytes in a block. -/
theorem sumB_call {H : Heap} {b n : Nat} {vs : List VV} (l : List UInt8) (hl : l.length ≤ 1000000) (hg : H.get b = some (.cells true vs)) (hv : vs = l.map bV) (hn : n = l.length) : VCall Tryd.prog 19 [.sl b 0 n none 1] H (fun v K => v = .ag ((sha l).map bV) ∧ K = H) := by
  subst hv hn
  refine VCall.viewed (args' := [roB l]) (Q := fun v K => v = .ag ((sha l).map bV)) (.cons ?_ .nil) ((sum_call l hl ⟨[], 0⟩).mono fun v K e => e.1) ?_
  · have h := View.sl (H := H) (b := b) (o := 0) (n := l.length) (z := 1) (c := none) (r := true) (vs := l.map bV) hg (by simp) (nameless_map nameless_bV l)
    rw [List.drop_zero, Nat.mul_one, List.take_of_length_le (by simp)] at h
    exact h
  · rintro v K rfl
    refine Frx.of ?_
    intro w w' Z Z' ρ ρ' y h
    cases h with
    | @ag _ cs h1 r1 =>
      refine .ag h1 fun i u c hu hc => ?_
      have := r1 i u c hu hc
      rw [List.getElem?_map] at hu
      cases hh : (sha l)[i]? with
      | none => rw [hh] at hu; cases hu
      | some q =>
        rw [hh] at hu
        injection hu with hu
        subst hu
        cases this with
        | sc g => exact .sc g
/-- The state of a hash behind bytes. -/
def hashV (m : List UInt8) (r : Nat) : List VV := hV (stF m).1 (.gs r (stF m).2.length 1) (.sc (nV m.length))
def restV (m : List UInt8) : List VV := (stF m).2.map bV
theorem hget_rest {D : List Nat} {b : Nat} {x : VObj} {O : List (Nat × VObj)} (h : hget O b = some x) (hb : memN b D = false) : hget (restO D O) b = some x := by
  rw [hget_restO, hb]; exact h
theorem sumAt_call {H : Heap} {hb r : Nat} (m : List UInt8) (hm : m.length ≤ 1000000) (hne : hb ≠ r) (h1 : H.get hb = some (.cells true (hashV m r))) (h2 : H.get r = some (.opt (restV m))) : VCall Tryd.prog 75 [.ptr hb 0] H (fun v K => v = .ag ((sha m).map bV) ∧ K = H) := by
  refine VCall.live fun hlive => ?_
  have l1 := hlive _ _ h1
  have l2 := hlive _ _ h2
  have hsum0 := sumM_call (stF m).1 (stF_ok m) (stF m).2 m.length (by rw [stF_len]; omega) (by omega)
  have hsha : (blkF (stF m).1 ((stF m).2 ++ padT m.length)).1.bytes = sha m := by rw [stF_app, sha_eq]
  rw [hsha] at hsum0
  have hm' : ∀ x y : Nat, x ≠ y → Nat.beq x y = false := fun x y h => by
    cases hh : Nat.beq x y
    · rfl
    · exact absurd (Nat.eq_of_beq_eq_true hh) h
  have b1 := hm' hb r hne
  have b2 := hm' r hb (fun e => hne e.symm)
  have k1 : (⟨keepO [hb, r] H.objs, H.next⟩ : Heap).get hb = some (.cells true (hashV m r)) := by
    show hget _ _ = _
    rw [hget_keepO]
    simp only [memN, Nat.beq_refl]
    exact h1
  have k2 : (⟨keepO [hb, r] H.objs, H.next⟩ : Heap).get r = some (.opt (restV m)) := by
    show hget _ _ = _
    rw [hget_keepO]
    simp only [memN, b1, Nat.beq_refl]
    exact h2
  have sb : srcOf [(0, hb), (1, r)] 0 hb = some 0 := by simp only [srcOf0, srcN, Nat.beq_refl]
  have sr : srcOf [(0, hb), (1, r)] 0 r = some 1 := by simp only [srcOf0, srcN, b1, Nat.beq_refl]
  have sb' := (srcOf0 _ _).symm.trans sb
  have sr' := (srcOf0 _ _).symm.trans sr
  have nr : nodupB [hb, r] = true := by simp [nodupB, b1]
  refine VCall.post (Q := fun v K => v = .ag ((sha m).map bV) ∧ K = ⟨[(hb, .cells true (hashV m r)), (r, .opt (restV m))] ++ restO [hb, r] H.objs, H.next⟩) ?_ ?_
  · refine VCall.at (n1 := 2) (O1 := [(0, .cells true (hV (stF m).1 (.gs 1 (stF m).2.length 1) (.sc (nV m.length)))), (1, .opt ((stF m).2.map bV))]) [hb, r] [(hb, 0), (r, 1)] ?_ ⟨⟨_, k1, (.cells (.cons .sc (.cons .sc (.cons .sc (.cons .sc (.cons .sc (.cons .sc (.cons .sc (.cons .sc (.cons (.gs (List.Mem.tail _ (List.Mem.head _))) (.cons .sc .nil)))))))))))⟩, ⟨_, k2, .opt (.of (nameless_map nameless_bV _))⟩, trivial⟩ (.cons (.ptr (List.Mem.head _)) .nil) hsum0 ?_
    · show (true && nodupB [hb, r] && true) = true
      rw [nr]; rfl
    · rintro v K ⟨rfl, rfl⟩
      refine ⟨.ag ((sha m).map bV), [(hb, .cells true (hashV m r)), (r, .opt (restV m))], ⟨?_, .of (nameless_ag (nameless_map nameless_bV _)), ?_⟩, ?_, rfl, rfl⟩
      · have e1 : Nat.blt hb (H.next + 0) = true := blt_iff.2 (by omega)
        have e2 : Nat.blt r (H.next + 0) = true := blt_iff.2 (by omega)
        show (wfR 0 (H.next + 0) [(0, hb), (1, r)] && nodupB (ksOf [(0, hb), (1, r)] 0 [(hb, VObj.cells true (hashV m r)), (r, VObj.opt (restV m))]) && ((srcN [(0, hb), (1, r)] hb).isSome && ((srcN [(0, hb), (1, r)] r).isSome && true)) && (true && (true && true))) = true
        simp only [ksOf, sb, sr, sb', sr']
        simp only [wfR, srcN, e1, e2, b2, b1]
        rfl
      · refine ⟨?_, ?_, trivial⟩
        · show (match srcOf [(0, hb), (1, r)] 0 hb with
            | some a => _
            | none => _)
          rw [sb]
          exact ⟨_, rfl, (.cells (.cons .sc (.cons .sc (.cons .sc (.cons .sc (.cons .sc (.cons .sc (.cons .sc (.cons .sc (.cons (.gs (List.Mem.tail _ (List.Mem.head _))) (.cons .sc .nil)))))))))))⟩
        · show (match srcOf [(0, hb), (1, r)] 0 r with
            | some a => _
            | none => _)
          rw [sr]
          exact ⟨_, rfl, .opt (.of (nameless_map nameless_bV _))⟩
      · have key : ∀ b, memN b [hb, r] = true → memN b ((restO [hb, r] H.objs).map (·.1)) = false := fun b hb2 => by
          cases hc : memN b ((restO [hb, r] H.objs).map (·.1)) with
          | false => rfl
          | true =>
            obtain ⟨q, hq, rfl⟩ := List.mem_map.1 (memN_iff.1 hc)
            have key2 : ∀ (l : List (Nat × VObj)), q ∈ restO [hb, r] l → memN q.1 [hb, r] = false := by
              intro l
              induction l with
              | nil => intro h; simp [restO] at h
              | cons x t ih =>
                obtain ⟨k, y⟩ := x
                intro h
                unfold restO at h
                cases hk : memN k [hb, r] with
                | true => rw [hk] at h; exact ih h
                | false =>
                  rw [hk] at h
                  rcases List.mem_cons.1 h with rfl | h
                  · exact hk
                  · exact ih h
            rw [key2 _ hq] at hb2
            cases hb2
        simp only [List.all_cons, List.all_nil, key hb (by simp [memN, Nat.beq_refl]), key r (by simp [memN, b1, Nat.beq_refl])]
        rfl
  · rintro v K ⟨rfl, rfl⟩
    refine ⟨_, H, ⟨rfl, rfl⟩, fun _ _ _ _ h => h, Nat.le_refl _, fun b x hx => ?_⟩
    show hget ((hb, VObj.cells true (hashV m r)) :: (r, VObj.opt (restV m)) :: restO [hb, r] H.objs) b = some x
    rw [hget_cons]
    split
    · rename_i e; subst e; exact h1.symm.trans hx
    · rename_i e
      rw [hget_cons]
      split
      · rename_i e2; subst e2; exact h2.symm.trans hx
      · rename_i e2
        refine hget_rest hx ?_
        simp only [memN, hm' b hb (fun q => e q.symm), hm' b r (fun q => e2 q.symm), hm' hb b e, hm' r b e2]
end Go.Proofs.YtdgohabgjgdfeaaDoor
