/- Bytes written into what is left of a row; how often a byte stands in a text (strings.Count). -/
import Derived.Test.YtbnemkdkeaiaoaaLe5
import Derived.Test.YtbnemkdkeaiaoaaJd
import Derived.Lib.Bytealg
namespace Go.Proofs.Ytbnemkdkeaiaoaa
open Go Go.RowKit
set_option linter.unusedSimpArgs false
set_option linter.unusedVariables false
set_option maxRecDepth 100000
set_option maxHeartbeats 8000000
theorem GOp'.cp0 {P : Program} {o : Oper} {ts : List VV} {H : Heap} {K : VV → Heap → Prop} {d s : Operand} {t e : TypeId} {m : Nat} {l : List VV} (ho : o.op = .call ⟨.builtin .copy, #[d, s], #[t, t]⟩) (hu : P.underlying t = some (.slice e)) (hz : vsize P e = some 1) (hd : veval ts d = .ro 0 []) (hs : velems 1 (veval ts s) H = some (m, l)) (k : K (iV 0) H) : GOp' P o ts H K := ⟨⟨by
  refine (VOne.does (v := iV 0) (H' := H) (fun c e => by simp [ho] at e) fun B M Z ρ av w hr hav => ?_).mono fun x K' e => by rw [e.1, e.2]; exact k
  have h1 := hd ▸ hav d
  obtain ⟨xs, p1, p2, p3, p4⟩ := velems_sound (P := P) hr (hav s) hs
  have hp : ∃ p c, av d = .slice p 0 c := by
    generalize av d = y at h1
    cases h1 with
    | ro => exact ⟨_, _, rfl⟩
    | ro0 => exact ⟨_, _, rfl⟩
  obtain ⟨p, c, hp⟩ := hp
  refine ⟨.int .i64 0, w, ρ, ?_, Ext.refl _ _ _ _, hr, .sc rfl⟩
  have h4 := p4 0 (Nat.zero_le _) w rfl
  have key : (Builtin.copy_ #[t, t] o.type #[av d, av s]).run P w = .ok (.int .i64 0) w := by
    rw [hp]
    cases p with
    | none => simp [Builtin.copy_, run_underlying hu, run_sizeOf hz, p3, h4, goInt]
    | some a => simp [Builtin.copy_, run_underlying hu, run_sizeOf hz, p3, h4, goInt, storeCells]
  simp [execOp, ho, resolve, invoke, builtin, key]⟩⟩
theorem hset_same : ∀ (O : List (Nat × VObj)) (b : Nat) (x : VObj), hget O b = some x → hset O b x = O
  | [], b, x, h => by simp [hget] at h
  | (k, o) :: r, b, x, h => by
    rw [hget_cons] at h
    rcases beq_cases k b with ⟨h1, e⟩ | ⟨h1, e⟩
    · rw [if_pos e] at h
      injection h with h
      subst h
      simp only [hset, h1]
    · rw [if_neg e] at h
      simp only [hset, h1, hset_same r b x h]
/-- What is left of a row, from a place on. -/
def RestV (b w n : Nat) (u : VV) : Prop := (w < n ∧ u = .sl b w (n - w) none 1) ∨ (w = n ∧ (u = .ro 0 [] ∨ u = .sl b w 0 none 1))
theorem GOp'.slR {P : Program} {o : Oper} {ts : List VV} {H : Heap} {K : VV → Heap → Prop} {t e : TypeId} {x lo : Operand} {b n w : Nat} {z : Int} {k : IntKind} (ho : o.op = .slice t x (some lo) none none) (hu : P.underlying t = some (.slice e)) (hz : vsize P e = some 1) (hx : veval ts x = .sl b 0 n none 1) (hl : veval ts lo = .sc (.int k z)) (hw : z = (w : Int)) (hwn : w ≤ n) (k : ∀ u, RestV b w n u → K u H) : GOp' P o ts H K := by
  refine GOp'.slQ (q := 0) (l := w) (h := n) ho hu hz hx ?_ hwn fun u hh => k u ?_
  · show vbounds n n (some (veval ts lo)) none none = _
    rw [hl, vb_l ⟨by omega, by omega⟩, hw, Int.toNat_natCast]
  · rw [Nat.zero_add] at hh
    rcases hh with rfl | ⟨rfl, e, _⟩
    · by_cases h : w < n
      · exact .inl ⟨h, rfl⟩
      · obtain rfl : w = n := by omega
        rw [Nat.sub_self]
        exact .inr ⟨rfl, .inr rfl⟩
    · exact .inr ⟨e, .inl rfl⟩
/-- Bytes, written into what is left of a row. -/
theorem GOp'.cpB {P : Program} {o : Oper} {ts : List VV} {H : Heap} {K : VV → Heap → Prop} {d s : Operand} {t e : TypeId} {u : VV} {b w n m : Nat} {x done : List UInt8} {rest : List VV} {l : List VV} (ho : o.op = .call ⟨.builtin .copy, #[d, s], #[t, t]⟩) (hu : P.underlying t = some (.slice e)) (hz : vsize P e = some 1) (hd : veval ts d = u) (hr : RestV b w n u) (hs : velems 1 (veval ts s) H = some (m, l)) (hm : m = x.length) (hl : l = x.map bV)
    (hg : H.get b = some (.cells true (done.map bV ++ rest))) (hdn : done.length = w) (hn : done.length + rest.length = n) (hx : w + x.length ≤ n) (k : K (iV x.length) (H.set b (.cells true ((done ++ x).map bV ++ rest.drop x.length)))) : GOp' P o ts H K := by
  subst hm hl hdn
  have hones : (x.map bV).all VV.one = true := by simp [bV, VV.one]
  have full : ∀ q, q = n - done.length → veval ts d = .sl b done.length q none 1 → GOp' P o ts H K := fun q hq hd => by
    refine GOp'.via (v := iV x.length) (H' := H.set b (.cells true ((done ++ x).map bV ++ rest.drop x.length))) ?_ k
    have e1 : Nat.min x.length q = x.length := Nat.min_eq_left (by omega)
    have e2 : ((x.map bV).take (x.length * 1)) = x.map bV := List.take_of_length_le (by simp)
    have e3 : done.length + (x.map bV).length ≤ (done.map bV ++ rest).length := by simp; omega
    have e4 : setRun (done.map bV ++ rest) done.length (x.map bV) = (done ++ x).map bV ++ rest.drop x.length := by
      rw [setRun_eq _ _ _ e3]
      have hdl : (done.map bV).length = done.length := List.length_map _
      rw [List.take_append_of_le_length (by simp), List.take_of_length_le (by simp), List.map_append, ← hdl, List.drop_length_add_append, List.length_map]
    simp only [vop, ho]
    simp only [vcopy, hu, hz, hs, hd, hg, hones, e1, e2, if_pos e3, e4]
    rfl
  rcases hr with ⟨h, rfl⟩ | ⟨h, rfl | rfl⟩
  · exact full _ rfl hd
  · have h0 : x = [] := List.eq_nil_of_length_eq_zero (by omega)
    subst h0
    refine GOp'.cp0 ho hu hz hd hs ?_
    have e : H.set b (.cells true ((done ++ []).map bV ++ rest.drop ([] : List UInt8).length)) = H := by
      rw [List.append_nil]
      show H.set b (.cells true (done.map bV ++ rest)) = H
      obtain ⟨O, nx⟩ := H
      show Heap.mk (hset O b (.cells true (done.map bV ++ rest))) nx = _
      rw [hset_same O b _ hg]
    rw [e] at k
    exact k
  · exact full 0 (by omega) hd
theorem GOp'.slW {P : Program} {o : Oper} {ts : List VV} {H : Heap} {K : VV → Heap → Prop} {t e : TypeId} {x lo : Operand} {b n w : Nat} {z : Int} {k : IntKind} (ho : o.op = .slice t x (some lo) none none) (hu : P.underlying t = some (.slice e)) (hz : vsize P e = some 1) (hx : veval ts x = .sl b 0 n none 1) (hl : veval ts lo = .sc (.int k z)) (hw : z = (w : Int)) (hwn : w < n) (k : K (.sl b w (n - w) none 1) H) : GOp' P o ts H K :=
  GOp'.slR ho hu hz hx hl hw (by omega) fun u hu => by
    rcases hu with ⟨_, rfl⟩ | ⟨e, _⟩
    · exact k
    · omega
theorem foldl_count (c : UInt8) : ∀ (l : List UInt8) (n : Int), l.foldl (fun n x => if x == c then n + 1 else n) n = n + l.count c
  | [], n => by simp
  | a :: l, n => by
    rw [List.foldl_cons, foldl_count c l, List.count_cons]
    cases a == c <;> simp <;> omega
theorem ext_count (l : List UInt8) (b : UInt8) (H : Heap) : vextern Try.prog 108 [strV l, bV b] H = some (iV (l.count b)) := by
  have hf := Try.func108
  have hr : extRow Try.f108.name = some Extern.BytealgCount.count := by kernel_rfl
  have hb : Try.f108.body = none := rfl
  have ho : Try.f108.origin = "" := rfl
  have hp : pureRun Try.prog (Extern.BytealgCount.count #[.string ⟨l.toArray⟩, .int .u8 (b.toNat : Int)]) = some (.int .i64 (l.count b)) := by
    rw [ct_eq]
    have e1 : Extern.Bytes.bytesOf (.string ⟨l.toArray⟩) = pure ⟨l.toArray⟩ := rfl
    have e2 : Extern.Bytes.asByte (.int .u8 (b.toNat : Int)) = pure b := by
      show (pure ((b.toNat : Int).toNat.toUInt8) : Sem UInt8) = pure b
      congr 1
      simp
    rw [e1, e2]
    show pureRun Try.prog (pure (goInt ((⟨l.toArray⟩ : ByteArray).foldl (fun n x => if x == b then n + 1 else n) ((0 : Nat) : Int)))) = _
    rw [Lib.foldl_data]
    show pureRun Try.prog (pure (goInt (l.foldl (fun n x => if x == b then n + 1 else n) ((0 : Nat) : Int)))) = _
    rw [foldl_count]
    show some (Value.int .i64 (((0 : Nat) : Int) + (l.count b : Int))) = _
    rw [show ((0 : Nat) : Int) + (l.count b : Int) = (l.count b : Int) by omega]
  simp only [vextern, hf, hb, ho, if_true, hr, bV, strV, argB]
  rw [hp]
  rfl
theorem scount_call (l : List UInt8) (c : UInt8) (H : Heap) : VCall Try.prog 106 [strV l, strV [c]] H (fun x K => x = iV (l.count c) ∧ K = H) := by
  refine VCall.pure (by simp [nameless_strV]) (nameless_sc _) ?_
  refine VCall.go Try.func106 rfl ?_
  repeat' (first | with_reducible refine And.intro ?_ ?_ | ((with_reducible intro hc); (try simp only [zA, zB, zC, zD, zE, zF, zG, zH, zI, zJ, zK, zL, zM, zN, zO, zP, zQ, zR, zS, zT, zU, zV, zW] at hc); (first | (exact absurd rfl hc) | (exact absurd trivial hc) | (exfalso; omega) | skip)) | ((conv => whnf); first | with_reducible refine And.intro ?_ ?_ | refine ifB_intro ?_ ?_ | refine xA (by omega) ?_ | ((refine xB ?_); intro kw hk1 hk2) | refine xC (by omega) ?_ | refine xD ?_ | refine xE (by omega) ?_ | refine xF (by omega) ?_ | refine xG ?_ | refine xH ?_ | refine xI (by omega) ?_ | refine xJ (by omega) ?_ | (with_reducible refine stopA ?_) | refine Exists.intro _ (And.intro (by rfl) ?_) | refine GOp.via (by rfl) ?_ | (with_reducible first | refine stopO ?_ | refine stopE ?_ | refine stopD ?_ | refine stopW ?_ | refine stopG ?_ | refine stopC ?_ | refine stopR ?_)))
  all_goals (first | omega | skip)
  refine GExt'.via (ext_count l c _) ?_
  repeat' (first | with_reducible refine And.intro ?_ ?_ | ((with_reducible intro hc); (try simp only [zA, zB, zC, zD, zE, zF, zG, zH, zI, zJ, zK, zL, zM, zN, zO, zP, zQ, zR, zS, zT, zU, zV, zW] at hc); (first | (exact absurd rfl hc) | (exact absurd trivial hc) | (exfalso; omega) | skip)) | ((conv => whnf); first | with_reducible refine And.intro ?_ ?_ | refine ifB_intro ?_ ?_ | refine xA (by omega) ?_ | ((refine xB ?_); intro kw hk1 hk2) | refine xC (by omega) ?_ | refine xD ?_ | refine xE (by omega) ?_ | refine xF (by omega) ?_ | refine xG ?_ | refine xH ?_ | refine xI (by omega) ?_ | refine xJ (by omega) ?_ | (with_reducible refine stopA ?_) | refine Exists.intro _ (And.intro (by rfl) ?_) | refine GOp.via (by rfl) ?_ | (with_reducible first | refine stopO ?_ | refine stopE ?_ | refine stopD ?_ | refine stopW ?_ | refine stopG ?_ | refine stopC ?_ | refine stopR ?_)))
  exact Done'.mk rfl
end Go.Proofs.Ytbnemkdkeaiaoaa
