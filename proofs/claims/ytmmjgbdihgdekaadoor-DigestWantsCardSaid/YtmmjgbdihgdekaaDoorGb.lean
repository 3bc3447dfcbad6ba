import Derived.Test.YtmmjgbdihgdekaaDoorG6
import Derived.Test.YtmmjgbdihgdekaaDoorE5
import Derived.Test.YtmmjgbdihgdekaaDoorE6
import Derived.Test.YtmmjgbdihgdekaaDoorG8
/- Blocks one behind the other: plain laws of the sum. -/
namespace Go.Proofs.YtmmjgbdihgdekaaDoor
open Go Go.RowKit
set_option linter.unusedSimpArgs false
set_option linter.unusedVariables false
theorem blks_small {n : Nat} {s : S8} {m : List UInt8} (h : m.length < 64) : blks n s m = (s, m) := by
  cases n with
  | zero => rfl
  | succ n => simp only [blks]; rw [if_neg (by omega)]
theorem blks_more : ∀ (n : Nat) (s : S8) (m : List UInt8), m.length < 64 * n + 64 → ∀ k, blks (n + k) s m = blks n s m
  | 0, s, m, h, k => by rw [blks_small (by omega), blks_small (by omega)]
  | n + 1, s, m, h, k => by
    rw [show n + 1 + k = (n + k) + 1 by omega]
    simp only [blks]
    split
    · exact blks_more n _ _ (by simp; omega) k
    · rfl
def blkF (s : S8) (m : List UInt8) : S8 × List UInt8 := blks (m.length + 1) s m
theorem blkF_of {n : Nat} {s : S8} {m : List UInt8} (h : m.length < 64 * n + 64) : blks n s m = blkF s m := by
  unfold blkF
  rw [← blks_more n s m h (m.length + 1), Nat.add_comm, blks_more (m.length + 1) s m (by omega)]
theorem blkF_step {s : S8} {m : List UInt8} (h : 64 ≤ m.length) : blkF s m = blkF (compr s (m.take 64)) (m.drop 64) := by
  have e : blkF s m = (if 64 ≤ m.length then blks m.length (compr s (m.take 64)) (m.drop 64) else (s, m)) := rfl
  rw [e, if_pos h]
  exact blkF_of (by simp; omega)
theorem blkF_end {s : S8} {m : List UInt8} (h : m.length < 64) : blkF s m = (s, m) := blks_small h
theorem compr_ok (s : S8) (p : List UInt8) : (compr s p).ok := S8.add_ok _ _
theorem blkF_ok {s : S8} (hs : s.ok) (m : List UInt8) : (blkF s m).1.ok := by
  have key : ∀ (n : Nat) (s : S8) (m : List UInt8), s.ok → (blks n s m).1.ok := by
    intro n
    induction n with
    | zero => intro s m h; exact h
    | succ n ih =>
      intro s m h
      simp only [blks]
      split
      · exact ih _ _ (compr_ok _ _)
      · exact h
  exact key _ _ _ hs
theorem blkF_len (s : S8) (m : List UInt8) : (blkF s m).2.length = m.length % 64 := by
  have key : ∀ (n : Nat) (s : S8) (m : List UInt8), m.length < 64 * n + 64 → (blks n s m).2.length = m.length % 64 := by
    intro n
    induction n with
    | zero => intro s m h; show m.length = _; omega
    | succ n ih =>
      intro s m h
      simp only [blks]
      split
      · rw [ih _ _ (by simp; omega)]
        simp
        omega
      · show m.length = _; omega
  exact key _ _ _ (by omega)
theorem blkF_app (s : S8) (m l : List UInt8) : blkF s (m ++ l) = blkF (blkF s m).1 ((blkF s m).2 ++ l) := by
  have key : ∀ (n : Nat) (s : S8) (m : List UInt8), m.length < 64 * n + 64 → blkF s (m ++ l) = blkF (blkF s m).1 ((blkF s m).2 ++ l) := by
    intro n
    induction n with
    | zero => intro s m h; rw [blkF_end (show m.length < 64 by omega)]
    | succ n ih =>
      intro s m h
      by_cases h2 : 64 ≤ m.length
      · rw [blkF_step h2, blkF_step (m := m ++ l) (by simp; omega), List.take_append_of_le_length h2, List.drop_append_of_le_length h2]
        exact ih _ _ (by simp; omega)
      · rw [blkF_end (show m.length < 64 by omega)]
  exact key m.length s m (by omega)
/-- The state behind so many bytes. -/
def stF (m : List UInt8) : S8 × List UInt8 := blkF h0T m
theorem stF_app (m l : List UInt8) : blkF (stF m).1 ((stF m).2 ++ l) = stF (m ++ l) := (blkF_app h0T m l).symm
theorem h0T_ok : h0T.ok := ⟨by decide, by decide, by decide, by decide, by decide, by decide, by decide, by decide⟩
theorem stF_ok (m : List UInt8) : (stF m).1.ok := blkF_ok h0T_ok m
theorem stF_len (m : List UInt8) : (stF m).2.length = m.length % 64 := blkF_len _ _
theorem padT_len (n : Nat) : (padT n).length = 9 + (119 - n % 64) % 64 := by
  unfold padT be8
  simp
  omega
theorem sha_eq (m : List UInt8) : sha m = (stF (m ++ padT m.length)).1.bytes := by
  unfold sha stF
  rw [blkF_of]
  have := padT_len m.length
  simp only [List.length_append]
  omega
theorem sha_len (m : List UInt8) : (sha m).length = 32 := by unfold sha S8.bytes w4; simp
theorem bytes_at (s : S8) {i : Nat} (h : i < 32) : s.bytes[i]? = some (UInt8.ofNat (s.list.getD (i / 4) 0 / 2 ^ (24 - 8 * (i % 4)))) := by
  have : i = 0 ∨ i = 1 ∨ i = 2 ∨ i = 3 ∨ i = 4 ∨ i = 5 ∨ i = 6 ∨ i = 7 ∨ i = 8 ∨ i = 9 ∨ i = 10 ∨ i = 11 ∨ i = 12 ∨ i = 13 ∨ i = 14 ∨ i = 15 ∨ i = 16 ∨ i = 17 ∨ i = 18 ∨ i = 19 ∨ i = 20 ∨ i = 21 ∨ i = 22 ∨ i = 23 ∨ i = 24 ∨ i = 25 ∨ i = 26 ∨ i = 27 ∨ i = 28 ∨ i = 29 ∨ i = 30 ∨ i = 31 := by omega
  rcases this with rfl | rfl | rfl | rfl | rfl | rfl | rfl | rfl | rfl | rfl | rfl | rfl | rfl | rfl | rfl | rfl | rfl | rfl | rfl | rfl | rfl | rfl | rfl | rfl | rfl | rfl | rfl | rfl | rfl | rfl | rfl | rfl
  all_goals (simp [S8.bytes, S8.list, w4])
end Go.Proofs.YtmmjgbdihgdekaaDoor

/- Clone of a slice that may be nil. -/
namespace Go.Proofs.YtmmjgbdihgdekaaDoor
open Go Go.RowKit
set_option linter.unusedSimpArgs false
set_option linter.unusedVariables false
set_option maxRecDepth 100000
set_option maxHeartbeats 4000000
theorem VCall.argW {P : Program} {f : FuncId} {args args' : List VV} {H : Heap} {Q : VV → Heap → Prop} (hw : ∀ w Z ρ cs, Pw (VRel w Z ρ) args cs → Pw (VRel w Z ρ) args' cs) (h : VCall P f args' H Q) : VCall P f args H Q :=
  fun B M Z ρ w ra h1 h2 => h B M Z ρ w ra h1 (hw _ _ _ _ h2)
theorem weak_gs0 {b z : Nat} {w : World} {Z : Nat → Prop} {ρ : Nat → Option (Nat × Nat)} {cs : List Value} (h : Pw (VRel w Z ρ) [.gs b 0 z] cs) : Pw (VRel w Z ρ) [.ro 0 []] cs := by
  refine ⟨h.1, fun i u x hu hx => ?_⟩
  cases i with
  | zero =>
    simp at hu
    subst hu
    have := h.2 0 _ x rfl hx
    cases this with
    | gs0 => exact .ro0
    | gs _ _ _ h0 => exact absurd rfl h0
  | succ i => simp at hu
theorem VCall.ungs {P : Program} {f : FuncId} {H : Heap} {Q : VV → Heap → Prop} {b n z : Nat} {vs : List VV} (hg : H.get b = some (.opt vs)) (hn : n ≠ 0) (h : VCall P f [.sl b 0 n none z] (H.set b (.cells true vs)) Q) : VCall P f [.gs b n z] H Q :=
  fun B M Z ρ w ra h1 h2 => by
    obtain ⟨hlen, hrel⟩ := h2
    match hra : ra.toList, hlen with
    | [y], _ =>
      have hv := hrel 0 _ y rfl (by rw [hra]; rfl)
      cases hv with
      | gs0 => exact absurd rfl hn
      | gs hk hcap hz h0 =>
        refine h B M Z ρ w ra (h1.toCells hg hk) ⟨by rw [hra]; rfl, fun i u x hu hx => ?_⟩
        cases i with
        | zero =>
          simp at hu
          subst hu
          rw [hra] at hx
          simp at hx
          subst hx
          exact .sl hk hcap (fun _ e => by cases e) (fun _ => by omega)
        | succ i => simp at hu
theorem clone_can (l : List UInt8) (hm : l.length ≤ 140737488355328) : VCall Tryd.prog 70 [.gs 0 l.length 1] ⟨[(0, .opt (l.map bV))], 1⟩ (fun v K => v = .gs 1 l.length 1 ∧ K = ⟨[(0, .opt (l.map bV)), (1, .opt (l.map bV))], 2⟩) := by
  by_cases hl : l.length = 0
  · have hl2 := List.eq_nil_of_length_eq_zero hl
    subst hl2
    refine VCall.argW (args' := [.ro 0 []]) (fun w Z ρ cs h => weak_gs0 h) ?_
    refine VCall.outR (Q := fun v K => (v = .sc (.slice none 0 0) ∨ ∃ c, v = .sl c 0 0 (some 0) 1) ∧ K.get 0 = some (.opt [])) ?_ ?_
    · refine VCall.go Tryd.func70 rfl ?_
      repeat' (first | with_reducible refine And.intro ?_ ?_ | ((with_reducible intro hc); (try simp only [zA, zB, zC, zD, zE, zF, zG, zH, zI, zJ, zK, zL, zM, zN, zO, zP, zQ, zR, zS, zT, zU, zV, zW] at hc); (first | (exact absurd rfl hc) | (exact absurd trivial hc) | (exfalso; omega) | skip)) | ((conv => whnf); first | with_reducible refine And.intro ?_ ?_ | refine ifB_intro ?_ ?_ | refine xA (by omega) ?_ | ((refine xB ?_); intro kw hk1 hk2) | refine xC (by omega) ?_ | refine xD ?_ | refine xE (by omega) ?_ | refine xF (by omega) ?_ | refine xG ?_ | refine xH ?_ | refine xI (by omega) ?_ | refine xJ (by omega) ?_ | (with_reducible refine stopA ?_) | refine Exists.intro _ (And.intro (by rfl) ?_) | refine GOp.via (by rfl) ?_ | (with_reducible first | refine stopO ?_ | refine stopE ?_ | refine stopD ?_ | refine stopW ?_ | refine stopG ?_ | refine stopC ?_ | refine stopR ?_)))
      · exact Done'.mk ⟨.inl rfl, rfl⟩
      · exact Done'.mk ⟨.inr ⟨_, rfl⟩, rfl⟩
    · rintro v K ⟨hv, h0⟩
      refine ⟨.gs 1 0 1, [(0, .opt []), (1, .opt [])], 2, [], rfl, ?_, ⟨⟨_, h0, .opt .nil⟩, rfl, trivial⟩, rfl, rfl⟩
      rcases hv with rfl | ⟨c, rfl⟩
      · exact .gsN
      · exact .gsZ
  · refine VCall.ungs rfl hl ?_
    refine VCall.outR (Q := fun v K => v = .sl 2 0 l.length none 1 ∧ K.get 0 = some (.cells true (l.map bV)) ∧ K.get 2 = some (.cells true (l.map bV))) ?_ ?_
    · refine VCall.go Tryd.func70 rfl ?_
      repeat' (first | with_reducible refine And.intro ?_ ?_ | ((with_reducible intro hc); (try simp only [zA, zB, zC, zD, zE, zF, zG, zH, zI, zJ, zK, zL, zM, zN, zO, zP, zQ, zR, zS, zT, zU, zV, zW] at hc); (first | (exact absurd rfl hc) | (exact absurd trivial hc) | (exfalso; omega) | skip)) | ((conv => whnf); first | with_reducible refine And.intro ?_ ?_ | refine ifB_intro ?_ ?_ | refine xA (by omega) ?_ | ((refine xB ?_); intro kw hk1 hk2) | refine xC (by omega) ?_ | refine xD ?_ | refine xE (by omega) ?_ | refine xF (by omega) ?_ | refine xG ?_ | refine xH ?_ | refine xI (by omega) ?_ | refine xJ (by omega) ?_ | (with_reducible refine stopA ?_) | refine Exists.intro _ (And.intro (by rfl) ?_) | refine GOp.via (by rfl) ?_ | (with_reducible first | refine stopO ?_ | refine stopE ?_ | refine stopD ?_ | refine stopW ?_ | refine stopG ?_ | refine stopC ?_ | refine stopR ?_)))
      refine GOp'.via ((vapp_full sty_b (d := .slice 5) Tryd.underlying22 (by intro k h; cases h) (b := 1) (o := 0) (n := 0) (c := 0) (z' := 1) (vs := []) (rw := true) (velems_sl (vs := l.map bV) rfl (by simp)) (one_map l) rfl (by omega) (by omega) (by simp) (by omega) (by omega)).trans (by rw [Nat.zero_add])) ?_
      repeat' (first | with_reducible refine And.intro ?_ ?_ | ((with_reducible intro hc); (try simp only [zA, zB, zC, zD, zE, zF, zG, zH, zI, zJ, zK, zL, zM, zN, zO, zP, zQ, zR, zS, zT, zU, zV, zW] at hc); (first | (exact absurd rfl hc) | (exact absurd trivial hc) | (exfalso; omega) | skip)) | ((conv => whnf); first | with_reducible refine And.intro ?_ ?_ | refine ifB_intro ?_ ?_ | refine xA (by omega) ?_ | ((refine xB ?_); intro kw hk1 hk2) | refine xC (by omega) ?_ | refine xD ?_ | refine xE (by omega) ?_ | refine xF (by omega) ?_ | refine xG ?_ | refine xH ?_ | refine xI (by omega) ?_ | refine xJ (by omega) ?_ | (with_reducible refine stopA ?_) | refine Exists.intro _ (And.intro (by rfl) ?_) | refine GOp.via (by rfl) ?_ | (with_reducible first | refine stopO ?_ | refine stopE ?_ | refine stopD ?_ | refine stopW ?_ | refine stopG ?_ | refine stopC ?_ | refine stopR ?_)))
      exact Done'.mk ⟨rfl, rfl, rfl⟩
    · rintro v K ⟨rfl, h0, h2⟩
      refine ⟨.gs 1 l.length 1, [(0, .opt (l.map bV)), (1, .opt (l.map bV))], 2, [(2, 1)], rfl, .gsS (List.Mem.head _) rfl hl, ⟨⟨_, h0, .toOpt (.of (nameless_map nameless_bV l))⟩, ⟨_, h2, .toOpt (.of (nameless_map nameless_bV l))⟩, trivial⟩, rfl, rfl⟩
theorem clone_at {H : Heap} {b : Nat} {l : List UInt8} (hm : l.length ≤ 140737488355328) (hg : H.get b = some (.opt (l.map bV))) : VCall Tryd.prog 70 [.gs b l.length 1] H (fun v K => v = .gs H.next l.length 1 ∧ K = ⟨(b, .opt (l.map bV)) :: (H.next, .opt (l.map bV)) :: restO [b] H.objs, H.next + 1⟩) := by
  refine VCall.live fun hlive => ?_
  have hb := hlive _ _ hg
  have hm' : ∀ x y : Nat, x ≠ y → Nat.beq x y = false := fun x y h => by
    cases hh : Nat.beq x y
    · rfl
    · exact absurd (Nat.eq_of_beq_eq_true hh) h
  have k1 : (⟨keepO [b] H.objs, H.next⟩ : Heap).get b = some (.opt (l.map bV)) := by
    show hget _ _ = _
    rw [hget_keepO]
    simp only [memN, Nat.beq_refl]
    exact hg
  refine VCall.at (n1 := 1) (O1 := [(0, .opt (l.map bV))]) [b] [(b, 0)] rfl ⟨⟨_, k1, .opt (.of (nameless_map nameless_bV l))⟩, trivial⟩ (.cons (.gs (List.Mem.head _)) .nil) (clone_can l hm) ?_
  rintro v K ⟨rfl, rfl⟩
  have e3 : Nat.blt b (H.next + 1) = true := blt_iff.2 (by omega)
  have e4 : Nat.blt H.next (H.next + 1) = true := blt_iff.2 (by omega)
  have s0 : srcOf [(1, H.next), (0, b)] 0 b = some 0 := by
    simp only [srcOf0, srcN, hm' H.next b (by omega), Nat.beq_refl]
  have s1 : srcOf [(1, H.next), (0, b)] 0 H.next = some 1 := by
    simp only [srcOf0, srcN, Nat.beq_refl]
  refine ⟨.gs H.next l.length 1, [(b, .opt (l.map bV)), (H.next, .opt (l.map bV))], ⟨?_, .gs (List.Mem.head _), ?_⟩, ?_, rfl, rfl⟩
  · show (wfR 0 (H.next + 1) [(1, H.next), (0, b)] && nodupB (ksOf [(1, H.next), (0, b)] 0 [(b, VObj.opt (l.map bV)), (H.next, VObj.opt (l.map bV))]) && ((srcN [(1, H.next), (0, b)] b).isSome && ((srcN [(1, H.next), (0, b)] H.next).isSome && true)) && (true && (true && true))) = true
    have s0' := (srcOf0 _ _).symm.trans s0
    have s1' := (srcOf0 _ _).symm.trans s1
    simp only [ksOf, s0, s1, s0', s1']
    simp only [wfR, srcN, e3, e4, hm' b H.next (by omega)]
    rfl
  · refine ⟨?_, ?_, trivial⟩
    · show (match srcOf [(1, H.next), (0, b)] 0 b with
        | some a => _
        | none => _)
      rw [s0]
      exact ⟨_, rfl, .opt (.of (nameless_map nameless_bV l))⟩
    · show (match srcOf [(1, H.next), (0, b)] 0 H.next with
        | some a => _
        | none => _)
      rw [s1]
      exact ⟨_, rfl, .opt (.of (nameless_map nameless_bV l))⟩
  · have k2 : memN b ((restO [b] H.objs).map (·.1)) = false := by
      cases hc : memN b ((restO [b] H.objs).map (·.1)) with
      | false => rfl
      | true =>
        have key : ∀ (O : List (Nat × VObj)), b ∈ (restO [b] O).map (·.1) → False := by
          intro O
          induction O with
          | nil => intro h; simp [restO] at h
          | cons p r ih =>
            obtain ⟨k, x⟩ := p
            intro h
            unfold restO at h
            cases hk : memN k [b] with
            | true => rw [hk] at h; exact ih h
            | false =>
              rw [hk] at h
              rcases List.mem_cons.1 h with e | h
              · simp only at e
                subst e
                simp [memN, Nat.beq_refl] at hk
              · exact ih h
        exact (key _ (memN_iff.1 hc)).elim
    have k3 : memN H.next ((restO [b] H.objs).map (·.1)) = false := by
      cases hc : memN H.next ((restO [b] H.objs).map (·.1)) with
      | false => rfl
      | true =>
        have key : ∀ (O : List (Nat × VObj)), H.next ∈ (restO [b] O).map (·.1) → ∃ x, hget O H.next = some x := by
          intro O
          induction O with
          | nil => intro h; simp [restO] at h
          | cons p r ih =>
            obtain ⟨k, x⟩ := p
            intro h
            rw [hget_cons]
            split
            · exact ⟨_, rfl⟩
            · rename_i hne
              unfold restO at h
              cases hk : memN k [b] with
              | true => rw [hk] at h; exact ih h
              | false =>
                rw [hk] at h
                rcases List.mem_cons.1 h with e | h
                · exact absurd e.symm hne
                · exact ih h
        obtain ⟨x, hx⟩ := key _ (memN_iff.1 hc)
        have := hlive _ _ hx
        omega
    simp only [List.all_cons, List.all_nil, k2, k3]
    rfl
end Go.Proofs.YtmmjgbdihgdekaaDoor

/- Bytes are added to a sum, walked. -/
namespace Go.Proofs.YtmmjgbdihgdekaaDoor
open Go Go.RowKit
set_option linter.unusedSimpArgs false
set_option linter.unusedVariables false
set_option maxRecDepth 100000
set_option maxHeartbeats 4000000
def nV (n : Nat) : Value := .int .u64 (n : Int)
theorem velems_slo {H : Heap} {b o n : Nat} {c : Option Nat} {vs : List VV} (hg : H.get b = some (.cells true vs)) (hn : o + n ≤ vs.length) : velems 1 (.sl b o n c 1) H = some (n, (vs.drop o).take n) := by
  simp [velems, hg, cellsOf, Nat.ble_eq_true_of_le, hn]
theorem RenV.slE2 {R : List (Nat × Nat)} {t b o o' n n' z : Nat} {c : Option Nat} (h : b < t) (e : o = o') (e2 : n = n') : RenV R t (.sl b o n c z) (.sl b o' n' c z) := by subst e e2; exact .slL h
theorem add_call (s : S8) (hs : s.ok) (r l : List UInt8) (n : Nat) (hn : n + l.length < 18446744073709551616) (hl : r.length + l.length ≤ 100000000000) : VCall Tryd.prog 104 [.ptr 0 0, roB l] ⟨[(0, .cells true (hV s (.gs 1 r.length 1) (.sc (nV n)))), (1, .opt (r.map bV))], 2⟩ (fun v K => v = .tp [] ∧ K = ⟨[(0, .cells true (hV (blkF s (r ++ l)).1 (.gs 2 (blkF s (r ++ l)).2.length 1) (.sc (nV (n + l.length))))), (2, .opt ((blkF s (r ++ l)).2.map bV))], 3⟩) := by
  have hx : (r ++ l).length = r.length + l.length := by simp
  have hmap : (r ++ l).map bV = r.map bV ++ l.map bV := by simp
  generalize hX : r ++ l = x at *
  generalize hB : blkF s x = B
  refine VCall.outR (Q := fun v K => v = .tp [] ∧ ∃ y, K.get 0 = some (.cells true (hV B.1 y (.sc (nV (n + l.length))))) ∧ ((B.2 = [] ∧ RenV [] 2 y (.gs 2 0 1)) ∨ ∃ c z, 2 ≤ c ∧ RenV [(c, 2)] 2 y (.gs 2 B.2.length 1) ∧ K.get c = some z ∧ RenO [(c, 2)] 2 z (.opt (B.2.map bV)))) ?_ ?_
  case refine_2 =>
    rintro v K ⟨rfl, y, h0, hy⟩
    rcases hy with ⟨e, hy⟩ | ⟨c, z, hc, hy, hg, hz⟩
    · rw [e]
      refine ⟨.tp [], [(0, .cells true (hV B.1 (.gs 2 0 1) (.sc (nV (n + l.length))))), (2, .opt [])], 3, [], rfl, .undef, ⟨⟨_, h0, .cells ?_⟩, rfl, trivial⟩, rfl, rfl⟩
      · exact .cons .sc (.cons .sc (.cons .sc (.cons .sc (.cons .sc (.cons .sc (.cons .sc (.cons .sc (.cons hy (.cons .sc .nil)))))))))
    · refine ⟨.tp [], [(0, .cells true (hV B.1 (.gs 2 B.2.length 1) (.sc (nV (n + l.length))))), (2, .opt (B.2.map bV))], 3, [(c, 2)], ?_, .undef, ⟨⟨_, h0, .cells ?_⟩, ⟨_, hg, hz⟩, trivial⟩, rfl, rfl⟩
      · have e : nodupB [0, c] = true := by
          cases c with
          | zero => omega
          | succ c => rfl
        show (true && (nodupB [0, c]) && true && true) = true
        rw [e]; rfl
      · exact .cons .sc (.cons .sc (.cons .sc (.cons .sc (.cons .sc (.cons .sc (.cons .sc (.cons .sc (.cons hy (.cons .sc .nil)))))))))
  refine VCall.go Tryd.func104 rfl ?_
  repeat' (first | with_reducible refine And.intro ?_ ?_ | ((with_reducible intro hc); (try simp only [zA, zB, zC, zD, zE, zF, zG, zH, zI, zJ, zK, zL, zM, zN, zO, zP, zQ, zR, zS, zT, zU, zV, zW] at hc); (first | (exact absurd rfl hc) | (exact absurd trivial hc) | (exfalso; omega) | skip)) | exact Is.mk rfl rfl | ((conv => whnf); first | with_reducible refine And.intro ?_ ?_ | with_reducible intro hx | exact Is.mk rfl rfl | (with_reducible first | apply Val.via | apply ValH.via) | refine ifB_intro ?_ ?_ | refine xA (by omega) ?_ | ((refine xB ?_); intro kw hk1 hk2) | refine xC (by omega) ?_ | refine xD ?_ | refine xE (by omega) ?_ | refine xF (by omega) ?_ | refine xG ?_ | refine xH ?_ | refine xI (by omega) ?_ | refine xJ (by omega) ?_ | (with_reducible refine stopA ?_) | refine Exists.intro _ (And.intro (by (first | rfl)) ?_) | refine GOp.drawn (by rfl) (by rfl) (Nat.le_of_ble_eq_true (by rfl)) (by rfl) | refine GOp.via (by rfl) ?_ | refine GWP.drawY mixed _ (by kernel_rfl) (by rfl) ?_ | (refine stopO (GOp'.grow rfl sty_b (d := .slice 5) Tryd.underlying22 (by intro k h; cases h) rfl (velems_roB l _) (one_map l) rfl (by simp) (by omega) (by omega) ?_)) | (with_reducible first | refine stopO ?_ | refine stopE ?_ | refine stopD ?_ | refine stopW ?_ | refine stopG ?_ | refine stopC ?_ | refine stopR ?_)))
  all_goals (first | omega | skip)
  rw [← hmap]
  by_cases hT : r.length + l.length < 64
  · have hBe : B = (s, x) := by rw [← hB, blkF_end (by omega)]
    have hcl : VCall Tryd.prog 70 [.gs 2 (r.length + l.length) 1] ⟨[(2, .opt (x.map bV)), (0, .cells true (hV s (.gs 1 r.length 1) (.sc (nV (n + l.length)))))], 3⟩ (fun v K => v = .gs 3 (r.length + l.length) 1 ∧ K = ⟨[(2, .opt (x.map bV)), (3, .opt (x.map bV)), (0, .cells true (hV s (.gs 1 r.length 1) (.sc (nV (n + l.length)))))], 4⟩) := by
      rw [← hx]
      exact clone_at (H := ⟨[(2, .opt (x.map bV)), (0, .cells true (hV s (.gs 1 r.length 1) (.sc (nV (n + l.length)))))], 3⟩) (by omega) rfl
    repeat' (first | with_reducible refine And.intro ?_ ?_ | ((with_reducible intro hc); (try simp only [zA, zB, zC, zD, zE, zF, zG, zH, zI, zJ, zK, zL, zM, zN, zO, zP, zQ, zR, zS, zT, zU, zV, zW] at hc); (first | (exact absurd rfl hc) | (exact absurd trivial hc) | (exfalso; omega) | skip)) | ((conv => whnf); first | with_reducible refine And.intro ?_ ?_ | refine ifB_intro ?_ ?_ | refine xA (by omega) ?_ | ((refine xB ?_); intro kw hk1 hk2) | refine xC (by omega) ?_ | refine xD ?_ | refine xE (by omega) ?_ | refine xF (by omega) ?_ | refine xG ?_ | refine xH ?_ | refine xI (by omega) ?_ | refine xJ (by omega) ?_ | (with_reducible refine stopA ?_) | refine Exists.intro _ (And.intro (by rfl) ?_) | refine GOp.via (by rfl) ?_ | (with_reducible first | refine stopO ?_ | refine stopE ?_ | refine stopD ?_ | refine stopW ?_ | refine stopG ?_ | refine stopC ?_ | refine stopR ?_)))
    refine GWP'.mk (GWP.rounds1 ?_)
    repeat' (first | with_reducible refine And.intro ?_ ?_ | ((with_reducible intro hc); (try simp only [zA, zB, zC, zD, zE, zF, zG, zH, zI, zJ, zK, zL, zM, zN, zO, zP, zQ, zR, zS, zT, zU, zV, zW] at hc); (first | (exact absurd rfl hc) | (exact absurd trivial hc) | (exfalso; omega) | skip)) | exact Is.mk rfl rfl | ((conv => whnf); first | with_reducible refine And.intro ?_ ?_ | with_reducible intro hx | exact Is.mk rfl rfl | (with_reducible first | apply Val.via | apply ValH.via) | refine ifB_intro ?_ ?_ | refine xA (by omega) ?_ | ((refine xB ?_); intro kw hk1 hk2) | refine xC (by omega) ?_ | refine xD ?_ | refine xE (by omega) ?_ | refine xF (by omega) ?_ | refine xG ?_ | refine xH ?_ | refine xI (by omega) ?_ | refine xJ (by omega) ?_ | (with_reducible refine stopA ?_) | refine Exists.intro _ (And.intro (by rfl) ?_) | refine GOp.drawn (by rfl) (by rfl) (Nat.le_of_ble_eq_true (by rfl)) (by rfl) | refine GOp.via (by rfl) ?_ | refine GWP.drawY mixed _ (by kernel_rfl) (by rfl) ?_ | (refine GCall.mk ((hcl).mono ?_); rintro _ _ ⟨rfl, rfl⟩) | (with_reducible first | refine stopO ?_ | refine stopE ?_ | refine stopD ?_ | refine stopW ?_ | refine stopG ?_ | refine stopC ?_ | refine stopR ?_)))
    all_goals (first | omega | skip)
    subst hBe
    refine Done'.mk ⟨rfl, _, rfl, .inr ⟨3, _, by omega, ?_, rfl, ?_⟩⟩
    · rw [show (s, x).2.length = r.length + l.length from hx]
      exact .gs (List.Mem.head _)
    · exact .opt (.of (nameless_map nameless_bV x))
  · repeat' (first | with_reducible refine And.intro ?_ ?_ | ((with_reducible intro hc); (try simp only [zA, zB, zC, zD, zE, zF, zG, zH, zI, zJ, zK, zL, zM, zN, zO, zP, zQ, zR, zS, zT, zU, zV, zW] at hc); (first | (exact absurd rfl hc) | (exact absurd trivial hc) | (exfalso; omega) | skip)) | ((conv => whnf); first | with_reducible refine And.intro ?_ ?_ | refine ifB_intro ?_ ?_ | refine xA (by omega) ?_ | ((refine xB ?_); intro kw hk1 hk2) | refine xC (by omega) ?_ | refine xD ?_ | refine xE (by omega) ?_ | refine xF (by omega) ?_ | refine xG ?_ | refine xH ?_ | refine xI (by omega) ?_ | refine xJ (by omega) ?_ | (with_reducible refine stopA ?_) | refine Exists.intro _ (And.intro (by rfl) ?_) | refine GOp.via (by rfl) ?_ | (with_reducible first | refine stopO ?_ | refine stopE ?_ | refine stopD ?_ | refine stopW ?_ | refine stopG ?_ | refine stopC ?_ | refine stopR ?_)))
    refine GWP'.ungs 1 rfl rfl (by omega) ?_
    conv => whnf
    refine stopW ?_
    (refine GWP'.mk (GWP.loopB [0] (fun (a : S8 × Option Nat) => a.1.ok ∧ match a.2 with
      | some k => 64 * k < x.length ∧ blkF a.1 (x.drop (64 * k)) = B
      | none => (a.1, []) = B) (fun a => [(1, match a.2 with
      | some k => .sl 2 (64 * k) (r.length + l.length - 64 * k) none 1
      | none => .ro 0 [])]) (fun a => [(0, .cells true (hV a.1 .junk (.sc (nV (n + l.length)))))]) 3 (fun a => match a.2 with
      | some k => r.length + l.length + 1 - 64 * k
      | none => 0) (s, some 0) ⟨hs, by omega, hB⟩ ?_); (conv => whnf); refine And.intro ?_ ?_)
    · focus (refine KeptA.of [] rfl rfl (by repeat' (first | exact trivial | refine And.intro rfl ?_)) rfl ?_ ?_; all_goals (repeat' (first | exact trivial | (refine And.intro ?_ ?_) | (refine Exists.intro _ (And.intro rfl ?_)) | (refine RenO.opt ?_) | (refine RenO.toOpt ?_) | (refine RenO.cells ?_) | exact RenO.defs | exact RenL.nil | (refine RenL.cons ?_ ?_) | (first | (first | exact RenV.junk | exact (RenV.slL (by decide) : RenV [] 3 (.sl 2 0 (r.length + l.length) none 1) (.sl 2 0 (r.length + l.length) none 1))) | (with_reducible exact RenV.sc) | exact RenV.gsN | exact RenV.gsZ | exact RenV.gsL (by decide) | exact RenV.slL (by decide) | ((first | refine RenV.gsE (by (first | exact List.Mem.head _ | exact List.Mem.tail _ (List.Mem.head _) | exact List.Mem.tail _ (List.Mem.tail _ (List.Mem.head _)) | (simp; done))) ?_ | refine RenV.eq (scI_eq ?_) (nameless_sc _)); (first | rfl | omega | (simp only [List.length_append, List.length_cons, List.length_nil, List.length_map, List.length_take, List.length_drop] <;> omega) | (simp only <;> omega) | (simp <;> omega))) | exact RenV.undef) | (with_unfolding_all exact (rfl : (_ : VObj) = _)))))
    rintro ⟨st, _ | k⟩ ⟨h1, h2⟩
    · simp only at h1 h2 ⊢
      subst h2
      repeat' (first | with_reducible refine And.intro ?_ ?_ | ((with_reducible intro hc); (try simp only [zA, zB, zC, zD, zE, zF, zG, zH, zI, zJ, zK, zL, zM, zN, zO, zP, zQ, zR, zS, zT, zU, zV, zW] at hc); (first | (exact absurd rfl hc) | (exact absurd trivial hc) | (exfalso; omega) | skip)) | exact Is.mk rfl rfl | ((conv => whnf); first | with_reducible refine And.intro ?_ ?_ | with_reducible intro hx | exact Is.mk rfl rfl | (with_reducible first | apply Val.via | apply ValH.via) | refine ifB_intro ?_ ?_ | refine xA (by omega) ?_ | ((refine xB ?_); intro kw hk1 hk2) | refine xC (by omega) ?_ | refine xD ?_ | refine xE (by omega) ?_ | refine xF (by omega) ?_ | refine xG ?_ | refine xH ?_ | refine xI (by omega) ?_ | refine xJ (by omega) ?_ | (with_reducible refine stopA ?_) | refine Exists.intro _ (And.intro (by rfl) ?_) | refine GOp.drawn (by rfl) (by rfl) (Nat.le_of_ble_eq_true (by rfl)) (by rfl) | refine GOp.via (by rfl) ?_ | refine GWP.drawY mixed _ (by kernel_rfl) (by rfl) ?_ | (refine GCall.mk (VCall.inl Tryd.func70 rfl ?_)) | (with_reducible first | refine stopO ?_ | refine stopE ?_ | refine stopD ?_ | refine stopW ?_ | refine stopG ?_ | refine stopC ?_ | refine stopR ?_)))
      all_goals (first | omega | skip)
      all_goals (first | exact Done'.mk ⟨rfl, _, rfl, .inl ⟨rfl, .gsN⟩⟩ | exact Done'.mk ⟨rfl, _, rfl, .inl ⟨rfl, .gsZ⟩⟩)
    · simp only at h1 h2 ⊢
      obtain ⟨h2, h3⟩ := h2
      by_cases hk : r.length + l.length - 64 * k < 64
      · rw [blkF_end (by simp; omega)] at h3
        subst h3
        have hne : r.length + l.length - 64 * k ≠ 0 := by omega
        have hvl : 64 * k + (r.length + l.length - 64 * k) ≤ (x.map bV).length := by simp; omega
        have htk : ((x.map bV).drop (64 * k)).take (r.length + l.length - 64 * k) = (x.drop (64 * k)).map bV := by
          rw [← List.map_drop, List.take_of_length_le (by simp; omega)]
        have hdl : (x.drop (64 * k)).length = r.length + l.length - 64 * k := by simp; omega
        generalize r.length + l.length - 64 * k = m at *
        generalize 64 * k = q at *
        repeat' (first | with_reducible refine And.intro ?_ ?_ | ((with_reducible intro hc); (try simp only [zA, zB, zC, zD, zE, zF, zG, zH, zI, zJ, zK, zL, zM, zN, zO, zP, zQ, zR, zS, zT, zU, zV, zW] at hc); (first | (exact absurd rfl hc) | (exact absurd trivial hc) | (exfalso; omega) | skip)) | exact Is.mk rfl rfl | ((conv => whnf); first | with_reducible refine And.intro ?_ ?_ | with_reducible intro hx | exact Is.mk rfl rfl | (with_reducible first | apply Val.via | apply ValH.via) | refine ifB_intro ?_ ?_ | refine xA (by omega) ?_ | ((refine xB ?_); intro kw hk1 hk2) | refine xC (by omega) ?_ | refine xD ?_ | refine xE (by omega) ?_ | refine xF (by omega) ?_ | refine xG ?_ | refine xH ?_ | refine xI (by omega) ?_ | refine xJ (by omega) ?_ | (with_reducible refine stopA ?_) | refine Exists.intro _ (And.intro (by rfl) ?_) | refine GOp.drawn (by rfl) (by rfl) (Nat.le_of_ble_eq_true (by rfl)) (by rfl) | refine GOp.via (by rfl) ?_ | refine GWP.drawY mixed _ (by kernel_rfl) (by rfl) ?_ | (refine GCall.mk (VCall.inl Tryd.func70 rfl ?_)) | (with_reducible first | refine stopO ?_ | refine stopE ?_ | refine stopD ?_ | refine stopW ?_ | refine stopG ?_ | refine stopC ?_ | refine stopR ?_)))
        all_goals (first | omega | skip)
        refine GOp'.via ((vapp_full sty_b (d := .slice 5) Tryd.underlying22 (by intro k h; cases h) (b := 3) (o := 0) (n := 0) (c := 0) (z' := 1) (vs := []) (rw := true) (velems_slo (vs := x.map bV) rfl hvl) (by rw [htk]; exact one_map _) rfl (by omega) (by omega) (by simp) (by omega) (by omega)).trans (by rw [Nat.zero_add])) ?_
        repeat' (first | with_reducible refine And.intro ?_ ?_ | ((with_reducible intro hc); (try simp only [zA, zB, zC, zD, zE, zF, zG, zH, zI, zJ, zK, zL, zM, zN, zO, zP, zQ, zR, zS, zT, zU, zV, zW] at hc); (first | (exact absurd rfl hc) | (exact absurd trivial hc) | (exfalso; omega) | skip)) | ((conv => whnf); first | with_reducible refine And.intro ?_ ?_ | refine ifB_intro ?_ ?_ | refine xA (by omega) ?_ | ((refine xB ?_); intro kw hk1 hk2) | refine xC (by omega) ?_ | refine xD ?_ | refine xE (by omega) ?_ | refine xF (by omega) ?_ | refine xG ?_ | refine xH ?_ | refine xI (by omega) ?_ | refine xJ (by omega) ?_ | (with_reducible refine stopA ?_) | refine Exists.intro _ (And.intro (by rfl) ?_) | refine GOp.via (by rfl) ?_ | (with_reducible first | refine stopO ?_ | refine stopE ?_ | refine stopD ?_ | refine stopW ?_ | refine stopG ?_ | refine stopC ?_ | refine stopR ?_)))
        refine Done'.mk ⟨rfl, _, rfl, .inr ⟨4, _, by omega, ?_, rfl, ?_⟩⟩
        · exact .gsS (List.Mem.head _) ((Nat.zero_add m).trans hdl.symm) (by omega)
        · refine .toOpt (.eq ?_ (nameless_map nameless_bV _))
          exact htk
      · have hbl := blockAt_call (n := nV (n + l.length)) (H := ⟨[(0, .cells true (hV st .junk (.sc (nV (n + l.length))))), (2, .cells true (x.map bV))], 3⟩) (hb := 0) (nm := 2) (o := 64 * k) (r := .junk) (p := (x.drop (64 * k)).take 64) h1 (by omega) rfl rfl (nameless_map nameless_bV x) (by rw [← List.map_drop, ← List.map_take]) (by simp; omega)
        rw [blkF_step (by simp; omega), List.drop_drop, show 64 * k + 64 = 64 * (k + 1) by omega] at h3
        have hco := compr_ok st ((x.drop (64 * k)).take 64)
        generalize compr st ((x.drop (64 * k)).take 64) = st' at *
        by_cases hk2 : r.length + l.length - 64 * k = 64
        · rw [List.drop_eq_nil_of_le (by omega), blkF_end (by simp)] at h3
          have hlt : 64 * k + 64 ≤ x.length := by omega
          rw [hk2]
          clear hk
          generalize 64 * k = q at *
          repeat' (first | with_reducible refine And.intro ?_ ?_ | ((with_reducible intro hc); (try simp only [zA, zB, zC, zD, zE, zF, zG, zH, zI, zJ, zK, zL, zM, zN, zO, zP, zQ, zR, zS, zT, zU, zV, zW] at hc); (first | (exact absurd rfl hc) | (exact absurd trivial hc) | (exfalso; omega) | skip)) | exact Is.mk rfl rfl | ((conv => whnf); first | with_reducible refine And.intro ?_ ?_ | with_reducible intro hx | exact Is.mk rfl rfl | (with_reducible first | apply Val.via | apply ValH.via) | refine ifB_intro ?_ ?_ | refine xA (by omega) ?_ | ((refine xB ?_); intro kw hk1 hk2) | refine xC (by omega) ?_ | refine xD ?_ | refine xE (by omega) ?_ | refine xF (by omega) ?_ | refine xG ?_ | refine xH ?_ | refine xI (by omega) ?_ | refine xJ (by omega) ?_ | (with_reducible refine stopA ?_) | refine Exists.intro _ (And.intro (by rfl) ?_) | refine GOp.drawn (by rfl) (by rfl) (Nat.le_of_ble_eq_true (by rfl)) (by rfl) | refine GOp.via (by rfl) ?_ | refine GWP.drawY mixed _ (by kernel_rfl) (by rfl) ?_ | (refine GCall.mk ((hbl).mono ?_); rintro _ _ ⟨rfl, rfl⟩) | (with_reducible first | refine stopO ?_ | refine stopE ?_ | refine stopD ?_ | refine stopW ?_ | refine stopG ?_ | refine stopC ?_ | refine stopR ?_)))
          all_goals (first | omega | skip)
          focus (refine Done'.mk ⟨(st', none), ⟨hco, h3⟩, ?_, KeptA.of [] rfl rfl (by repeat' (first | exact trivial | refine And.intro rfl ?_)) rfl ?_ ?_⟩; (first | omega | (simp only; omega)); all_goals (repeat' (first | exact trivial | (refine And.intro ?_ ?_) | (refine Exists.intro _ (And.intro rfl ?_)) | (refine RenO.opt ?_) | (refine RenO.toOpt ?_) | (refine RenO.cells ?_) | exact RenO.defs | exact RenL.nil | (refine RenL.cons ?_ ?_) | (first | (first | exact RenV.junk | exact (RenV.of (nameless_ro (vs := []) (by simp)) : RenV [] 3 (.ro 0 []) (.ro 0 []))) | (with_reducible exact RenV.sc) | exact RenV.gsN | exact RenV.gsZ | exact RenV.gsL (by decide) | exact RenV.slL (by decide) | ((first | refine RenV.gsE (by (first | exact List.Mem.head _ | exact List.Mem.tail _ (List.Mem.head _) | exact List.Mem.tail _ (List.Mem.tail _ (List.Mem.head _)) | (simp; done))) ?_ | refine RenV.eq (scI_eq ?_) (nameless_sc _)); (first | rfl | omega | (simp only [List.length_append, List.length_cons, List.length_nil, List.length_map, List.length_take, List.length_drop] <;> omega) | (simp only <;> omega) | (simp <;> omega))) | exact RenV.undef) | (with_unfolding_all exact (rfl : (_ : VObj) = _)))))
        · generalize hm : r.length + l.length - 64 * k = m at *
          generalize hq : 64 * k = q at *
          repeat' (first | with_reducible refine And.intro ?_ ?_ | ((with_reducible intro hc); (try simp only [zA, zB, zC, zD, zE, zF, zG, zH, zI, zJ, zK, zL, zM, zN, zO, zP, zQ, zR, zS, zT, zU, zV, zW] at hc); (first | (exact absurd rfl hc) | (exact absurd trivial hc) | (exfalso; omega) | skip)) | exact Is.mk rfl rfl | ((conv => whnf); first | with_reducible refine And.intro ?_ ?_ | with_reducible intro hx | exact Is.mk rfl rfl | (with_reducible first | apply Val.via | apply ValH.via) | refine ifB_intro ?_ ?_ | refine xA (by omega) ?_ | ((refine xB ?_); intro kw hk1 hk2) | refine xC (by omega) ?_ | refine xD ?_ | refine xE (by omega) ?_ | refine xF (by omega) ?_ | refine xG ?_ | refine xH ?_ | refine xI (by omega) ?_ | refine xJ (by omega) ?_ | (with_reducible refine stopA ?_) | refine Exists.intro _ (And.intro (by rfl) ?_) | refine GOp.drawn (by rfl) (by rfl) (Nat.le_of_ble_eq_true (by rfl)) (by rfl) | refine GOp.via (by rfl) ?_ | refine GWP.drawY mixed _ (by kernel_rfl) (by rfl) ?_ | (refine GCall.mk ((hbl).mono ?_); rintro _ _ ⟨rfl, rfl⟩) | (with_reducible first | refine stopO ?_ | refine stopE ?_ | refine stopD ?_ | refine stopW ?_ | refine stopG ?_ | refine stopC ?_ | refine stopR ?_)))
          all_goals (first | omega | skip)
          refine GOp'.slN (z := 1) rfl rfl (by kernel_rfl) rfl (vb_h ⟨by omega, by omega⟩) (by omega) ?_
          repeat' (first | with_reducible refine And.intro ?_ ?_ | ((with_reducible intro hc); (try simp only [zA, zB, zC, zD, zE, zF, zG, zH, zI, zJ, zK, zL, zM, zN, zO, zP, zQ, zR, zS, zT, zU, zV, zW] at hc); (first | (exact absurd rfl hc) | (exact absurd trivial hc) | (exfalso; omega) | skip)) | exact Is.mk rfl rfl | ((conv => whnf); first | with_reducible refine And.intro ?_ ?_ | with_reducible intro hx | exact Is.mk rfl rfl | (with_reducible first | apply Val.via | apply ValH.via) | refine ifB_intro ?_ ?_ | refine xA (by omega) ?_ | ((refine xB ?_); intro kw hk1 hk2) | refine xC (by omega) ?_ | refine xD ?_ | refine xE (by omega) ?_ | refine xF (by omega) ?_ | refine xG ?_ | refine xH ?_ | refine xI (by omega) ?_ | refine xJ (by omega) ?_ | (with_reducible refine stopA ?_) | refine Exists.intro _ (And.intro (by rfl) ?_) | refine GOp.drawn (by rfl) (by rfl) (Nat.le_of_ble_eq_true (by rfl)) (by rfl) | refine GOp.via (by rfl) ?_ | refine GWP.drawY mixed _ (by kernel_rfl) (by rfl) ?_ | (refine GCall.mk ((hbl).mono ?_); rintro _ _ ⟨rfl, rfl⟩) | (with_reducible first | refine stopO ?_ | refine stopE ?_ | refine stopD ?_ | refine stopW ?_ | refine stopG ?_ | refine stopC ?_ | refine stopR ?_)))
          all_goals (first | omega | skip)
          refine GOp'.slN (z := 1) rfl rfl (by kernel_rfl) rfl (vb_l ⟨by omega, by omega⟩) (by omega) ?_
          repeat' (first | with_reducible refine And.intro ?_ ?_ | ((with_reducible intro hc); (try simp only [zA, zB, zC, zD, zE, zF, zG, zH, zI, zJ, zK, zL, zM, zN, zO, zP, zQ, zR, zS, zT, zU, zV, zW] at hc); (first | (exact absurd rfl hc) | (exact absurd trivial hc) | (exfalso; omega) | skip)) | exact Is.mk rfl rfl | ((conv => whnf); first | with_reducible refine And.intro ?_ ?_ | with_reducible intro hx | exact Is.mk rfl rfl | (with_reducible first | apply Val.via | apply ValH.via) | refine ifB_intro ?_ ?_ | refine xA (by omega) ?_ | ((refine xB ?_); intro kw hk1 hk2) | refine xC (by omega) ?_ | refine xD ?_ | refine xE (by omega) ?_ | refine xF (by omega) ?_ | refine xG ?_ | refine xH ?_ | refine xI (by omega) ?_ | refine xJ (by omega) ?_ | (with_reducible refine stopA ?_) | refine Exists.intro _ (And.intro (by rfl) ?_) | refine GOp.drawn (by rfl) (by rfl) (Nat.le_of_ble_eq_true (by rfl)) (by rfl) | refine GOp.via (by rfl) ?_ | refine GWP.drawY mixed _ (by kernel_rfl) (by rfl) ?_ | (refine GCall.mk ((hbl).mono ?_); rintro _ _ ⟨rfl, rfl⟩) | (with_reducible first | refine stopO ?_ | refine stopE ?_ | refine stopD ?_ | refine stopW ?_ | refine stopG ?_ | refine stopC ?_ | refine stopR ?_)))
          all_goals (first | omega | skip)
          focus (refine Done'.mk ⟨(st', some (k + 1)), ⟨hco, by omega, h3⟩, ?_, KeptA.of [] rfl rfl (by repeat' (first | exact trivial | refine And.intro rfl ?_)) rfl ?_ ?_⟩; (first | omega | (simp only; omega)); all_goals (repeat' (first | exact trivial | (refine And.intro ?_ ?_) | (refine Exists.intro _ (And.intro rfl ?_)) | (refine RenO.opt ?_) | (refine RenO.toOpt ?_) | (refine RenO.cells ?_) | exact RenO.defs | exact RenL.nil | (refine RenL.cons ?_ ?_) | (first | (first | exact RenV.junk | exact (RenV.slE2 (by decide) (by omega) (by omega) : RenV [] 3 (.sl 2 (q + 64 * 1) (m - 64) none 1) (.sl 2 (64 * (k + 1)) (r.length + l.length - 64 * (k + 1)) none 1))) | (with_reducible exact RenV.sc) | exact RenV.gsN | exact RenV.gsZ | exact RenV.gsL (by decide) | exact RenV.slL (by decide) | ((first | refine RenV.gsE (by (first | exact List.Mem.head _ | exact List.Mem.tail _ (List.Mem.head _) | exact List.Mem.tail _ (List.Mem.tail _ (List.Mem.head _)) | (simp; done))) ?_ | refine RenV.eq (scI_eq ?_) (nameless_sc _)); (first | rfl | omega | (simp only [List.length_append, List.length_cons, List.length_nil, List.length_map, List.length_take, List.length_drop] <;> omega) | (simp only <;> omega) | (simp <;> omega))) | exact RenV.undef) | (with_unfolding_all exact (rfl : (_ : VObj) = _)))))
end Go.Proofs.YtmmjgbdihgdekaaDoor

/- Bytes of a block are added to a sum, walked. -/
namespace Go.Proofs.YtmmjgbdihgdekaaDoor
open Go Go.RowKit
set_option linter.unusedSimpArgs false
set_option linter.unusedVariables false
set_option maxRecDepth 100000
set_option maxHeartbeats 4000000
theorem addB_call (s : S8) (hs : s.ok) (r l : List UInt8) (n : Nat) (hn : n + l.length < 18446744073709551616) (hl : r.length + l.length ≤ 100000000000) (vs : List VV) (o : Nat) (ho : o + l.length ≤ vs.length) (hv : (vs.drop o).take l.length = l.map bV) (hnl : ∀ v ∈ vs, Nameless v) : VCall Tryd.prog 104 [.ptr 0 0, .sl 2 o l.length none 1] ⟨[(0, .cells true (hV s (.gs 1 r.length 1) (.sc (nV n)))), (1, .opt (r.map bV)), (2, .cells true vs)], 3⟩ (fun v K => v = .tp [] ∧ K = ⟨[(0, .cells true (hV (blkF s (r ++ l)).1 (.gs 3 (blkF s (r ++ l)).2.length 1) (.sc (nV (n + l.length))))), (3, .opt ((blkF s (r ++ l)).2.map bV)), (2, .cells true vs)], 4⟩) := by
  have hx : (r ++ l).length = r.length + l.length := by simp
  have hmap : (r ++ l).map bV = r.map bV ++ l.map bV := by simp
  generalize hX : r ++ l = x at *
  generalize hB : blkF s x = B
  refine VCall.outR (Q := fun v K => v = .tp [] ∧ ∃ y, K.get 0 = some (.cells true (hV B.1 y (.sc (nV (n + l.length))))) ∧ K.get 2 = some (.cells true vs) ∧ ((B.2 = [] ∧ RenV [] 3 y (.gs 3 0 1)) ∨ ∃ c z, 3 ≤ c ∧ RenV [(c, 3)] 3 y (.gs 3 B.2.length 1) ∧ K.get c = some z ∧ RenO [(c, 3)] 3 z (.opt (B.2.map bV)))) ?_ ?_
  case refine_2 =>
    rintro v K ⟨rfl, y, h0, hk2, hy⟩
    rcases hy with ⟨e, hy⟩ | ⟨c, z, hc, hy, hg, hz⟩
    · rw [e]
      refine ⟨.tp [], [(0, .cells true (hV B.1 (.gs 3 0 1) (.sc (nV (n + l.length))))), (3, .opt []), (2, .cells true vs)], 4, [], rfl, .undef, ⟨⟨_, h0, .cells ?_⟩, rfl, ⟨_, hk2, .cells (.of hnl)⟩, trivial⟩, rfl, rfl⟩
      · exact .cons .sc (.cons .sc (.cons .sc (.cons .sc (.cons .sc (.cons .sc (.cons .sc (.cons .sc (.cons hy (.cons .sc .nil)))))))))
    · refine ⟨.tp [], [(0, .cells true (hV B.1 (.gs 3 B.2.length 1) (.sc (nV (n + l.length))))), (3, .opt (B.2.map bV)), (2, .cells true vs)], 4, [(c, 3)], ?_, .undef, ⟨⟨_, h0, .cells ?_⟩, ⟨_, hg, hz⟩, ⟨_, hk2, .cells (.of hnl)⟩, trivial⟩, rfl, rfl⟩
      · have e : nodupB [0, c, 2] = true := by
          match c, hc with
          | c + 3, _ => rfl
        show (true && (nodupB [0, c, 2]) && true && true) = true
        rw [e]; rfl
      · exact .cons .sc (.cons .sc (.cons .sc (.cons .sc (.cons .sc (.cons .sc (.cons .sc (.cons .sc (.cons hy (.cons .sc .nil)))))))))
  refine VCall.go Tryd.func104 rfl ?_
  repeat' (first | with_reducible refine And.intro ?_ ?_ | ((with_reducible intro hc); (try simp only [zA, zB, zC, zD, zE, zF, zG, zH, zI, zJ, zK, zL, zM, zN, zO, zP, zQ, zR, zS, zT, zU, zV, zW] at hc); (first | (exact absurd rfl hc) | (exact absurd trivial hc) | (exfalso; omega) | skip)) | exact Is.mk rfl rfl | ((conv => whnf); first | with_reducible refine And.intro ?_ ?_ | with_reducible intro hx | exact Is.mk rfl rfl | (with_reducible first | apply Val.via | apply ValH.via) | refine ifB_intro ?_ ?_ | refine xA (by omega) ?_ | ((refine xB ?_); intro kw hk1 hk2) | refine xC (by omega) ?_ | refine xD ?_ | refine xE (by omega) ?_ | refine xF (by omega) ?_ | refine xG ?_ | refine xH ?_ | refine xI (by omega) ?_ | refine xJ (by omega) ?_ | (with_reducible refine stopA ?_) | refine Exists.intro _ (And.intro (by (first | rfl)) ?_) | refine GOp.drawn (by rfl) (by rfl) (Nat.le_of_ble_eq_true (by rfl)) (by rfl) | refine GOp.via (by rfl) ?_ | refine GWP.drawY mixed _ (by kernel_rfl) (by rfl) ?_ | (refine stopO (GOp'.grow rfl sty_b (d := .slice 5) Tryd.underlying22 (by intro k h; cases h) rfl (velems_slo rfl ho) (by rw [hv]; exact one_map l) rfl (by simp) (by omega) (by omega) ?_)) | (with_reducible first | refine stopO ?_ | refine stopE ?_ | refine stopD ?_ | refine stopW ?_ | refine stopG ?_ | refine stopC ?_ | refine stopR ?_)))
  all_goals (first | omega | skip)
  rw [hv, ← hmap]
  by_cases hT : r.length + l.length < 64
  · have hBe : B = (s, x) := by rw [← hB, blkF_end (by omega)]
    have hcl : VCall Tryd.prog 70 [.gs 3 (r.length + l.length) 1] ⟨[(3, .opt (x.map bV)), (0, .cells true (hV s (.gs 1 r.length 1) (.sc (nV (n + l.length))))), (2, .cells true vs)], 4⟩ (fun v K => v = .gs 4 (r.length + l.length) 1 ∧ K = ⟨[(3, .opt (x.map bV)), (4, .opt (x.map bV)), (0, .cells true (hV s (.gs 1 r.length 1) (.sc (nV (n + l.length))))), (2, .cells true vs)], 5⟩) := by
      rw [← hx]
      exact clone_at (H := ⟨[(3, .opt (x.map bV)), (0, .cells true (hV s (.gs 1 r.length 1) (.sc (nV (n + l.length))))), (2, .cells true vs)], 4⟩) (by omega) rfl
    repeat' (first | with_reducible refine And.intro ?_ ?_ | ((with_reducible intro hc); (try simp only [zA, zB, zC, zD, zE, zF, zG, zH, zI, zJ, zK, zL, zM, zN, zO, zP, zQ, zR, zS, zT, zU, zV, zW] at hc); (first | (exact absurd rfl hc) | (exact absurd trivial hc) | (exfalso; omega) | skip)) | ((conv => whnf); first | with_reducible refine And.intro ?_ ?_ | refine ifB_intro ?_ ?_ | refine xA (by omega) ?_ | ((refine xB ?_); intro kw hk1 hk2) | refine xC (by omega) ?_ | refine xD ?_ | refine xE (by omega) ?_ | refine xF (by omega) ?_ | refine xG ?_ | refine xH ?_ | refine xI (by omega) ?_ | refine xJ (by omega) ?_ | (with_reducible refine stopA ?_) | refine Exists.intro _ (And.intro (by rfl) ?_) | refine GOp.via (by rfl) ?_ | (with_reducible first | refine stopO ?_ | refine stopE ?_ | refine stopD ?_ | refine stopW ?_ | refine stopG ?_ | refine stopC ?_ | refine stopR ?_)))
    refine GWP'.mk (GWP.rounds1 ?_)
    repeat' (first | with_reducible refine And.intro ?_ ?_ | ((with_reducible intro hc); (try simp only [zA, zB, zC, zD, zE, zF, zG, zH, zI, zJ, zK, zL, zM, zN, zO, zP, zQ, zR, zS, zT, zU, zV, zW] at hc); (first | (exact absurd rfl hc) | (exact absurd trivial hc) | (exfalso; omega) | skip)) | exact Is.mk rfl rfl | ((conv => whnf); first | with_reducible refine And.intro ?_ ?_ | with_reducible intro hx | exact Is.mk rfl rfl | (with_reducible first | apply Val.via | apply ValH.via) | refine ifB_intro ?_ ?_ | refine xA (by omega) ?_ | ((refine xB ?_); intro kw hk1 hk2) | refine xC (by omega) ?_ | refine xD ?_ | refine xE (by omega) ?_ | refine xF (by omega) ?_ | refine xG ?_ | refine xH ?_ | refine xI (by omega) ?_ | refine xJ (by omega) ?_ | (with_reducible refine stopA ?_) | refine Exists.intro _ (And.intro (by rfl) ?_) | refine GOp.drawn (by rfl) (by rfl) (Nat.le_of_ble_eq_true (by rfl)) (by rfl) | refine GOp.via (by rfl) ?_ | refine GWP.drawY mixed _ (by kernel_rfl) (by rfl) ?_ | (refine GCall.mk ((hcl).mono ?_); rintro _ _ ⟨rfl, rfl⟩) | (with_reducible first | refine stopO ?_ | refine stopE ?_ | refine stopD ?_ | refine stopW ?_ | refine stopG ?_ | refine stopC ?_ | refine stopR ?_)))
    all_goals (first | omega | skip)
    subst hBe
    refine Done'.mk ⟨rfl, _, rfl, rfl, .inr ⟨4, _, by omega, ?_, rfl, ?_⟩⟩
    · rw [show (s, x).2.length = r.length + l.length from hx]
      exact .gs (List.Mem.head _)
    · exact .opt (.of (nameless_map nameless_bV x))
  · repeat' (first | with_reducible refine And.intro ?_ ?_ | ((with_reducible intro hc); (try simp only [zA, zB, zC, zD, zE, zF, zG, zH, zI, zJ, zK, zL, zM, zN, zO, zP, zQ, zR, zS, zT, zU, zV, zW] at hc); (first | (exact absurd rfl hc) | (exact absurd trivial hc) | (exfalso; omega) | skip)) | ((conv => whnf); first | with_reducible refine And.intro ?_ ?_ | refine ifB_intro ?_ ?_ | refine xA (by omega) ?_ | ((refine xB ?_); intro kw hk1 hk2) | refine xC (by omega) ?_ | refine xD ?_ | refine xE (by omega) ?_ | refine xF (by omega) ?_ | refine xG ?_ | refine xH ?_ | refine xI (by omega) ?_ | refine xJ (by omega) ?_ | (with_reducible refine stopA ?_) | refine Exists.intro _ (And.intro (by rfl) ?_) | refine GOp.via (by rfl) ?_ | (with_reducible first | refine stopO ?_ | refine stopE ?_ | refine stopD ?_ | refine stopW ?_ | refine stopG ?_ | refine stopC ?_ | refine stopR ?_)))
    refine GWP'.ungs 1 rfl rfl (by omega) ?_
    conv => whnf
    refine stopW ?_
    (refine GWP'.mk (GWP.loopB [0] (fun (a : S8 × Option Nat) => a.1.ok ∧ match a.2 with
      | some k => 64 * k < x.length ∧ blkF a.1 (x.drop (64 * k)) = B
      | none => (a.1, []) = B) (fun a => [(1, match a.2 with
      | some k => .sl 3 (64 * k) (r.length + l.length - 64 * k) none 1
      | none => .ro 0 [])]) (fun a => [(0, .cells true (hV a.1 .junk (.sc (nV (n + l.length)))))]) 4 (fun a => match a.2 with
      | some k => r.length + l.length + 1 - 64 * k
      | none => 0) (s, some 0) ⟨hs, by omega, hB⟩ ?_); (conv => whnf); refine And.intro ?_ ?_)
    · focus (refine KeptA.of [] rfl rfl (by repeat' (first | exact trivial | refine And.intro rfl ?_)) rfl ?_ ?_; all_goals (repeat' (first | exact trivial | (refine And.intro ?_ ?_) | (refine Exists.intro _ (And.intro rfl ?_)) | (refine RenO.opt ?_) | (refine RenO.toOpt ?_) | (refine RenO.cells ?_) | exact RenO.defs | exact RenL.nil | (refine RenL.cons ?_ ?_) | (first | (first | exact RenV.junk | exact (RenV.slL (by decide) : RenV [] 4 (.sl 3 0 (r.length + l.length) none 1) (.sl 3 0 (r.length + l.length) none 1))) | (with_reducible exact RenV.sc) | exact RenV.gsN | exact RenV.gsZ | exact RenV.gsL (by decide) | exact RenV.slL (by decide) | ((first | refine RenV.gsE (by (first | exact List.Mem.head _ | exact List.Mem.tail _ (List.Mem.head _) | exact List.Mem.tail _ (List.Mem.tail _ (List.Mem.head _)) | (simp; done))) ?_ | refine RenV.eq (scI_eq ?_) (nameless_sc _)); (first | rfl | omega | (simp only [List.length_append, List.length_cons, List.length_nil, List.length_map, List.length_take, List.length_drop] <;> omega) | (simp only <;> omega) | (simp <;> omega))) | exact RenV.undef) | (with_unfolding_all exact (rfl : (_ : VObj) = _)))))
    rintro ⟨st, _ | k⟩ ⟨h1, h2⟩
    · simp only at h1 h2 ⊢
      subst h2
      repeat' (first | with_reducible refine And.intro ?_ ?_ | ((with_reducible intro hc); (try simp only [zA, zB, zC, zD, zE, zF, zG, zH, zI, zJ, zK, zL, zM, zN, zO, zP, zQ, zR, zS, zT, zU, zV, zW] at hc); (first | (exact absurd rfl hc) | (exact absurd trivial hc) | (exfalso; omega) | skip)) | exact Is.mk rfl rfl | ((conv => whnf); first | with_reducible refine And.intro ?_ ?_ | with_reducible intro hx | exact Is.mk rfl rfl | (with_reducible first | apply Val.via | apply ValH.via) | refine ifB_intro ?_ ?_ | refine xA (by omega) ?_ | ((refine xB ?_); intro kw hk1 hk2) | refine xC (by omega) ?_ | refine xD ?_ | refine xE (by omega) ?_ | refine xF (by omega) ?_ | refine xG ?_ | refine xH ?_ | refine xI (by omega) ?_ | refine xJ (by omega) ?_ | (with_reducible refine stopA ?_) | refine Exists.intro _ (And.intro (by rfl) ?_) | refine GOp.drawn (by rfl) (by rfl) (Nat.le_of_ble_eq_true (by rfl)) (by rfl) | refine GOp.via (by rfl) ?_ | refine GWP.drawY mixed _ (by kernel_rfl) (by rfl) ?_ | (refine GCall.mk (VCall.inl Tryd.func70 rfl ?_)) | (with_reducible first | refine stopO ?_ | refine stopE ?_ | refine stopD ?_ | refine stopW ?_ | refine stopG ?_ | refine stopC ?_ | refine stopR ?_)))
      all_goals (first | omega | skip)
      all_goals (first | exact Done'.mk ⟨rfl, _, rfl, rfl, .inl ⟨rfl, .gsN⟩⟩ | exact Done'.mk ⟨rfl, _, rfl, rfl, .inl ⟨rfl, .gsZ⟩⟩)
    · simp only at h1 h2 ⊢
      obtain ⟨h2, h3⟩ := h2
      by_cases hk : r.length + l.length - 64 * k < 64
      · rw [blkF_end (by simp; omega)] at h3
        subst h3
        have hne : r.length + l.length - 64 * k ≠ 0 := by omega
        have hvl : 64 * k + (r.length + l.length - 64 * k) ≤ (x.map bV).length := by simp; omega
        have htk : ((x.map bV).drop (64 * k)).take (r.length + l.length - 64 * k) = (x.drop (64 * k)).map bV := by
          rw [← List.map_drop, List.take_of_length_le (by simp; omega)]
        have hdl : (x.drop (64 * k)).length = r.length + l.length - 64 * k := by simp; omega
        generalize r.length + l.length - 64 * k = m at *
        generalize 64 * k = q at *
        repeat' (first | with_reducible refine And.intro ?_ ?_ | ((with_reducible intro hc); (try simp only [zA, zB, zC, zD, zE, zF, zG, zH, zI, zJ, zK, zL, zM, zN, zO, zP, zQ, zR, zS, zT, zU, zV, zW] at hc); (first | (exact absurd rfl hc) | (exact absurd trivial hc) | (exfalso; omega) | skip)) | exact Is.mk rfl rfl | ((conv => whnf); first | with_reducible refine And.intro ?_ ?_ | with_reducible intro hx | exact Is.mk rfl rfl | (with_reducible first | apply Val.via | apply ValH.via) | refine ifB_intro ?_ ?_ | refine xA (by omega) ?_ | ((refine xB ?_); intro kw hk1 hk2) | refine xC (by omega) ?_ | refine xD ?_ | refine xE (by omega) ?_ | refine xF (by omega) ?_ | refine xG ?_ | refine xH ?_ | refine xI (by omega) ?_ | refine xJ (by omega) ?_ | (with_reducible refine stopA ?_) | refine Exists.intro _ (And.intro (by rfl) ?_) | refine GOp.drawn (by rfl) (by rfl) (Nat.le_of_ble_eq_true (by rfl)) (by rfl) | refine GOp.via (by rfl) ?_ | refine GWP.drawY mixed _ (by kernel_rfl) (by rfl) ?_ | (refine GCall.mk (VCall.inl Tryd.func70 rfl ?_)) | (with_reducible first | refine stopO ?_ | refine stopE ?_ | refine stopD ?_ | refine stopW ?_ | refine stopG ?_ | refine stopC ?_ | refine stopR ?_)))
        all_goals (first | omega | skip)
        refine GOp'.via ((vapp_full sty_b (d := .slice 5) Tryd.underlying22 (by intro k h; cases h) (b := 4) (o := 0) (n := 0) (c := 0) (z' := 1) (vs := []) (rw := true) (velems_slo (vs := x.map bV) rfl hvl) (by rw [htk]; exact one_map _) rfl (by omega) (by omega) (by simp) (by omega) (by omega)).trans (by rw [Nat.zero_add])) ?_
        repeat' (first | with_reducible refine And.intro ?_ ?_ | ((with_reducible intro hc); (try simp only [zA, zB, zC, zD, zE, zF, zG, zH, zI, zJ, zK, zL, zM, zN, zO, zP, zQ, zR, zS, zT, zU, zV, zW] at hc); (first | (exact absurd rfl hc) | (exact absurd trivial hc) | (exfalso; omega) | skip)) | ((conv => whnf); first | with_reducible refine And.intro ?_ ?_ | refine ifB_intro ?_ ?_ | refine xA (by omega) ?_ | ((refine xB ?_); intro kw hk1 hk2) | refine xC (by omega) ?_ | refine xD ?_ | refine xE (by omega) ?_ | refine xF (by omega) ?_ | refine xG ?_ | refine xH ?_ | refine xI (by omega) ?_ | refine xJ (by omega) ?_ | (with_reducible refine stopA ?_) | refine Exists.intro _ (And.intro (by rfl) ?_) | refine GOp.via (by rfl) ?_ | (with_reducible first | refine stopO ?_ | refine stopE ?_ | refine stopD ?_ | refine stopW ?_ | refine stopG ?_ | refine stopC ?_ | refine stopR ?_)))
        refine Done'.mk ⟨rfl, _, rfl, rfl, .inr ⟨5, _, by omega, ?_, rfl, ?_⟩⟩
        · exact .gsS (List.Mem.head _) ((Nat.zero_add m).trans hdl.symm) (by omega)
        · refine .toOpt (.eq ?_ (nameless_map nameless_bV _))
          exact htk
      · have hbl := blockAt_call (n := nV (n + l.length)) (H := ⟨[(0, .cells true (hV st .junk (.sc (nV (n + l.length))))), (3, .cells true (x.map bV)), (2, .cells true vs)], 4⟩) (hb := 0) (nm := 3) (o := 64 * k) (r := .junk) (p := (x.drop (64 * k)).take 64) h1 (by omega) rfl rfl (nameless_map nameless_bV x) (by rw [← List.map_drop, ← List.map_take]) (by simp; omega)
        rw [blkF_step (by simp; omega), List.drop_drop, show 64 * k + 64 = 64 * (k + 1) by omega] at h3
        have hco := compr_ok st ((x.drop (64 * k)).take 64)
        generalize compr st ((x.drop (64 * k)).take 64) = st' at *
        by_cases hk2 : r.length + l.length - 64 * k = 64
        · rw [List.drop_eq_nil_of_le (by omega), blkF_end (by simp)] at h3
          have hlt : 64 * k + 64 ≤ x.length := by omega
          rw [hk2]
          clear hk
          generalize 64 * k = q at *
          repeat' (first | with_reducible refine And.intro ?_ ?_ | ((with_reducible intro hc); (try simp only [zA, zB, zC, zD, zE, zF, zG, zH, zI, zJ, zK, zL, zM, zN, zO, zP, zQ, zR, zS, zT, zU, zV, zW] at hc); (first | (exact absurd rfl hc) | (exact absurd trivial hc) | (exfalso; omega) | skip)) | exact Is.mk rfl rfl | ((conv => whnf); first | with_reducible refine And.intro ?_ ?_ | with_reducible intro hx | exact Is.mk rfl rfl | (with_reducible first | apply Val.via | apply ValH.via) | refine ifB_intro ?_ ?_ | refine xA (by omega) ?_ | ((refine xB ?_); intro kw hk1 hk2) | refine xC (by omega) ?_ | refine xD ?_ | refine xE (by omega) ?_ | refine xF (by omega) ?_ | refine xG ?_ | refine xH ?_ | refine xI (by omega) ?_ | refine xJ (by omega) ?_ | (with_reducible refine stopA ?_) | refine Exists.intro _ (And.intro (by rfl) ?_) | refine GOp.drawn (by rfl) (by rfl) (Nat.le_of_ble_eq_true (by rfl)) (by rfl) | refine GOp.via (by rfl) ?_ | refine GWP.drawY mixed _ (by kernel_rfl) (by rfl) ?_ | (refine GCall.mk ((hbl).mono ?_); rintro _ _ ⟨rfl, rfl⟩) | (with_reducible first | refine stopO ?_ | refine stopE ?_ | refine stopD ?_ | refine stopW ?_ | refine stopG ?_ | refine stopC ?_ | refine stopR ?_)))
          all_goals (first | omega | skip)
          focus (refine Done'.mk ⟨(st', none), ⟨hco, h3⟩, ?_, KeptA.of [] rfl rfl (by repeat' (first | exact trivial | refine And.intro rfl ?_)) rfl ?_ ?_⟩; (first | omega | (simp only; omega)); all_goals (repeat' (first | exact trivial | (refine And.intro ?_ ?_) | (refine Exists.intro _ (And.intro rfl ?_)) | (refine RenO.opt ?_) | (refine RenO.toOpt ?_) | (refine RenO.cells ?_) | exact RenO.defs | exact RenL.nil | (refine RenL.cons ?_ ?_) | (first | (first | exact RenV.junk | exact (RenV.of (nameless_ro (vs := []) (by simp)) : RenV [] 4 (.ro 0 []) (.ro 0 []))) | (with_reducible exact RenV.sc) | exact RenV.gsN | exact RenV.gsZ | exact RenV.gsL (by decide) | exact RenV.slL (by decide) | ((first | refine RenV.gsE (by (first | exact List.Mem.head _ | exact List.Mem.tail _ (List.Mem.head _) | exact List.Mem.tail _ (List.Mem.tail _ (List.Mem.head _)) | (simp; done))) ?_ | refine RenV.eq (scI_eq ?_) (nameless_sc _)); (first | rfl | omega | (simp only [List.length_append, List.length_cons, List.length_nil, List.length_map, List.length_take, List.length_drop] <;> omega) | (simp only <;> omega) | (simp <;> omega))) | exact RenV.undef) | (with_unfolding_all exact (rfl : (_ : VObj) = _)))))
        · generalize hm : r.length + l.length - 64 * k = m at *
          generalize hq : 64 * k = q at *
          repeat' (first | with_reducible refine And.intro ?_ ?_ | ((with_reducible intro hc); (try simp only [zA, zB, zC, zD, zE, zF, zG, zH, zI, zJ, zK, zL, zM, zN, zO, zP, zQ, zR, zS, zT, zU, zV, zW] at hc); (first | (exact absurd rfl hc) | (exact absurd trivial hc) | (exfalso; omega) | skip)) | exact Is.mk rfl rfl | ((conv => whnf); first | with_reducible refine And.intro ?_ ?_ | with_reducible intro hx | exact Is.mk rfl rfl | (with_reducible first | apply Val.via | apply ValH.via) | refine ifB_intro ?_ ?_ | refine xA (by omega) ?_ | ((refine xB ?_); intro kw hk1 hk2) | refine xC (by omega) ?_ | refine xD ?_ | refine xE (by omega) ?_ | refine xF (by omega) ?_ | refine xG ?_ | refine xH ?_ | refine xI (by omega) ?_ | refine xJ (by omega) ?_ | (with_reducible refine stopA ?_) | refine Exists.intro _ (And.intro (by rfl) ?_) | refine GOp.drawn (by rfl) (by rfl) (Nat.le_of_ble_eq_true (by rfl)) (by rfl) | refine GOp.via (by rfl) ?_ | refine GWP.drawY mixed _ (by kernel_rfl) (by rfl) ?_ | (refine GCall.mk ((hbl).mono ?_); rintro _ _ ⟨rfl, rfl⟩) | (with_reducible first | refine stopO ?_ | refine stopE ?_ | refine stopD ?_ | refine stopW ?_ | refine stopG ?_ | refine stopC ?_ | refine stopR ?_)))
          all_goals (first | omega | skip)
          refine GOp'.slN (z := 1) rfl rfl (by kernel_rfl) rfl (vb_h ⟨by omega, by omega⟩) (by omega) ?_
          repeat' (first | with_reducible refine And.intro ?_ ?_ | ((with_reducible intro hc); (try simp only [zA, zB, zC, zD, zE, zF, zG, zH, zI, zJ, zK, zL, zM, zN, zO, zP, zQ, zR, zS, zT, zU, zV, zW] at hc); (first | (exact absurd rfl hc) | (exact absurd trivial hc) | (exfalso; omega) | skip)) | exact Is.mk rfl rfl | ((conv => whnf); first | with_reducible refine And.intro ?_ ?_ | with_reducible intro hx | exact Is.mk rfl rfl | (with_reducible first | apply Val.via | apply ValH.via) | refine ifB_intro ?_ ?_ | refine xA (by omega) ?_ | ((refine xB ?_); intro kw hk1 hk2) | refine xC (by omega) ?_ | refine xD ?_ | refine xE (by omega) ?_ | refine xF (by omega) ?_ | refine xG ?_ | refine xH ?_ | refine xI (by omega) ?_ | refine xJ (by omega) ?_ | (with_reducible refine stopA ?_) | refine Exists.intro _ (And.intro (by rfl) ?_) | refine GOp.drawn (by rfl) (by rfl) (Nat.le_of_ble_eq_true (by rfl)) (by rfl) | refine GOp.via (by rfl) ?_ | refine GWP.drawY mixed _ (by kernel_rfl) (by rfl) ?_ | (refine GCall.mk ((hbl).mono ?_); rintro _ _ ⟨rfl, rfl⟩) | (with_reducible first | refine stopO ?_ | refine stopE ?_ | refine stopD ?_ | refine stopW ?_ | refine stopG ?_ | refine stopC ?_ | refine stopR ?_)))
          all_goals (first | omega | skip)
          refine GOp'.slN (z := 1) rfl rfl (by kernel_rfl) rfl (vb_l ⟨by omega, by omega⟩) (by omega) ?_
          repeat' (first | with_reducible refine And.intro ?_ ?_ | ((with_reducible intro hc); (try simp only [zA, zB, zC, zD, zE, zF, zG, zH, zI, zJ, zK, zL, zM, zN, zO, zP, zQ, zR, zS, zT, zU, zV, zW] at hc); (first | (exact absurd rfl hc) | (exact absurd trivial hc) | (exfalso; omega) | skip)) | exact Is.mk rfl rfl | ((conv => whnf); first | with_reducible refine And.intro ?_ ?_ | with_reducible intro hx | exact Is.mk rfl rfl | (with_reducible first | apply Val.via | apply ValH.via) | refine ifB_intro ?_ ?_ | refine xA (by omega) ?_ | ((refine xB ?_); intro kw hk1 hk2) | refine xC (by omega) ?_ | refine xD ?_ | refine xE (by omega) ?_ | refine xF (by omega) ?_ | refine xG ?_ | refine xH ?_ | refine xI (by omega) ?_ | refine xJ (by omega) ?_ | (with_reducible refine stopA ?_) | refine Exists.intro _ (And.intro (by rfl) ?_) | refine GOp.drawn (by rfl) (by rfl) (Nat.le_of_ble_eq_true (by rfl)) (by rfl) | refine GOp.via (by rfl) ?_ | refine GWP.drawY mixed _ (by kernel_rfl) (by rfl) ?_ | (refine GCall.mk ((hbl).mono ?_); rintro _ _ ⟨rfl, rfl⟩) | (with_reducible first | refine stopO ?_ | refine stopE ?_ | refine stopD ?_ | refine stopW ?_ | refine stopG ?_ | refine stopC ?_ | refine stopR ?_)))
          all_goals (first | omega | skip)
          focus (refine Done'.mk ⟨(st', some (k + 1)), ⟨hco, by omega, h3⟩, ?_, KeptA.of [] rfl rfl (by repeat' (first | exact trivial | refine And.intro rfl ?_)) rfl ?_ ?_⟩; (first | omega | (simp only; omega)); all_goals (repeat' (first | exact trivial | (refine And.intro ?_ ?_) | (refine Exists.intro _ (And.intro rfl ?_)) | (refine RenO.opt ?_) | (refine RenO.toOpt ?_) | (refine RenO.cells ?_) | exact RenO.defs | exact RenL.nil | (refine RenL.cons ?_ ?_) | (first | (first | exact RenV.junk | exact (RenV.slE2 (by decide) (by omega) (by omega) : RenV [] 4 (.sl 3 (q + 64 * 1) (m - 64) none 1) (.sl 3 (64 * (k + 1)) (r.length + l.length - 64 * (k + 1)) none 1))) | (with_reducible exact RenV.sc) | exact RenV.gsN | exact RenV.gsZ | exact RenV.gsL (by decide) | exact RenV.slL (by decide) | ((first | refine RenV.gsE (by (first | exact List.Mem.head _ | exact List.Mem.tail _ (List.Mem.head _) | exact List.Mem.tail _ (List.Mem.tail _ (List.Mem.head _)) | (simp; done))) ?_ | refine RenV.eq (scI_eq ?_) (nameless_sc _)); (first | rfl | omega | (simp only [List.length_append, List.length_cons, List.length_nil, List.length_map, List.length_take, List.length_drop] <;> omega) | (simp only <;> omega) | (simp <;> omega))) | exact RenV.undef) | (with_unfolding_all exact (rfl : (_ : VObj) = _)))))
end Go.Proofs.YtmmjgbdihgdekaaDoor

