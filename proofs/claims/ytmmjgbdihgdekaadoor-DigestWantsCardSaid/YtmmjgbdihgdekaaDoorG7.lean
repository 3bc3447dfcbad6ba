import Derived.Test.YtmmjgbdihgdekaaDoorG6
/- A block of the sum, walked. -/
namespace Go.Proofs.YtmmjgbdihgdekaaDoor
open Go Go.RowKit
set_option linter.unusedSimpArgs false
set_option linter.unusedVariables false
set_option maxRecDepth 100000
set_option maxHeartbeats 8000000
theorem nameless_wV (n : Nat) : Nameless (wV n) := nameless_sc _
theorem vagg_w : vagg Tryd.prog 109 = some false := by kernel_rfl
/-- The words that have been read of a block, and noughts. -/
def W1 (p : List UInt8) (i : Nat) : List Nat := w16 p i ++ List.replicate (64 - i) 0
theorem w16_len (p : List UInt8) : ∀ n, (w16 p n).length = n
  | 0 => rfl
  | n + 1 => by simp [w16, w16_len p n]
theorem W1_len (p : List UInt8) {i : Nat} (h : i ≤ 64) : (W1 p i).length = 64 := by simp [W1, w16_len]; omega
theorem W1_next (p : List UInt8) {i : Nat} (h : i < 64) : (W1 p i).set i (be4 ((p.drop (4 * i)).take 4)) = W1 p (i + 1) := by
  unfold W1
  rw [List.set_append_right _ _ (by rw [w16_len]; exact Nat.le_refl _), w16_len, Nat.sub_self]
  obtain ⟨k, hk⟩ : ∃ k, 64 - i = k + 1 := ⟨63 - i, by omega⟩
  rw [hk, List.replicate_succ, List.set_cons_zero, show 64 - (i + 1) = k by omega]
  simp [w16]
theorem be4_next {l : List UInt8} {j : Nat} {b : UInt8} (h : l[j]? = some b) : be4 (l.take (j + 1)) = be4 (l.take j) * 256 + b.toNat := by
  rw [take_next h]
  unfold be4
  rw [List.foldl_append]
  rfl
theorem be4_lt (l : List UInt8) : be4 l < 256 ^ l.length := by
  have key : ∀ (l : List UInt8) (n m : Nat), n < m → l.foldl (fun n b => n * 256 + b.toNat) n < m * 256 ^ l.length := by
    intro l
    induction l with
    | nil => intro n m h; simpa using h
    | cons c r ih =>
      intro n m h
      have := ih (n * 256 + c.toNat) (m * 256) (by have := u8_lt c; omega)
      simp only [List.foldl_cons, List.length_cons]
      rw [Nat.pow_succ, Nat.mul_comm (256 ^ r.length), ← Nat.mul_assoc]
      exact this
  have := key l 0 1 (by omega)
  simpa [be4] using this
theorem or_sh8 {x b : Nat} (hx : x < 16777216) (hb : b < 256) : bitZ .or .u32 (shlZ .u32 (x : Int) 8) (b : Int) = ((x * 256 + b : Nat) : Int) := by
  have h1 := shl_u32 (a := x) (k := 8) (by omega)
  have e1 : ((8 : Nat) : Int) = 8 := rfl
  rw [e1] at h1
  rw [h1, or_u32 (Nat.mod_lt _ (by omega)) (by omega)]
  have h5 := Nat.shiftLeft_add_eq_or_of_lt (i := 8) (b := b) (by omega) x
  rw [Nat.shiftLeft_eq] at h5
  rw [show x * 2 ^ 8 % 4294967296 = x * 2 ^ 8 by omega, ← h5]
theorem mapw_at {l : List Nat} {i x : Nat} (h : l[i]? = some x) : (l.map wV)[i]? = some (wV x) := by
  rw [List.getElem?_map, h]; rfl
theorem addmul1 {q a z i : Nat} (hz : z = 1) (h : q + a = i) : q + a * z = i := by subst hz; omega
theorem vstore_w {H : Heap} {b q i : Nat} {l : List Nat} {z : Int} {x : Nat} (hg : H.get b = some (.cells true (l.map wV))) (hi : q = i) (hq : i < l.length) (hz : z = (x : Int)) : vstore Tryd.prog 109 (.ptr b q) (.sc (.int .u32 z)) H = some (H.set b (.cells true ((l.set i x).map wV))) := by
  subst hi hz
  have hz : vsize Tryd.prog 109 = some 1 := by kernel_rfl
  have h1 : Nat.ble (q + 1) (l.map wV).length = true := Nat.ble_eq_true_of_le (by simp; omega)
  simp only [vstore, hg, cellsOf, hz, List.length_singleton, Nat.beq_refl, h1, Bool.and_self, setRun]
  rw [List.map_set]
  rfl
theorem W1_self (p : List UInt8) {i : Nat} (h : i < 64) (l : List UInt8) : (W1 p i).set i (be4 (l.take 0)) = W1 p i := by
  unfold W1
  rw [List.set_append_right _ _ (by rw [w16_len]; exact Nat.le_refl _), w16_len, Nat.sub_self]
  obtain ⟨k, hk⟩ : ∃ k, 64 - i = k + 1 := ⟨63 - i, by omega⟩
  rw [hk, List.replicate_succ, List.set_cons_zero]
  rfl
/-- All words so far, and noughts. -/
def wX (p : List UInt8) (i : Nat) : List Nat := wExt (i - 16) (w16 p 16)
def W2 (p : List UInt8) (i : Nat) : List Nat := wX p i ++ List.replicate (64 - i) 0
theorem wX_len (p : List UInt8) {i : Nat} (h : 16 ≤ i) : (wX p i).length = i := by
  have key : ∀ n, (wExt n (w16 p 16)).length = 16 + n := by
    intro n
    induction n with
    | zero => exact w16_len p 16
    | succ n ih => simp only [wExt, List.length_append, ih, List.length_cons, List.length_nil]; omega
  unfold wX
  rw [key]
  omega
theorem w16_lt (p : List UInt8) : ∀ n, ∀ x ∈ w16 p n, x < 4294967296
  | 0, x, h => by simp [w16] at h
  | n + 1, x, h => by
    unfold w16 at h
    rcases List.mem_append.1 h with h | h
    · exact w16_lt p n x h
    · simp at h
      subst h
      have := be4_lt ((p.drop (4 * n)).take 4)
      have h2 : 256 ^ ((p.drop (4 * n)).take 4).length ≤ 256 ^ 4 := Nat.pow_le_pow_right (by omega) (by simp; omega)
      omega
theorem wX_lt (p : List UInt8) (i : Nat) : ∀ x ∈ wX p i, x < 4294967296 := by
  have key : ∀ n, ∀ x ∈ wExt n (w16 p 16), x < 4294967296 := by
    intro n
    induction n with
    | zero => exact w16_lt p 16
    | succ n ih =>
      intro x h
      simp only [wExt] at h
      rcases List.mem_append.1 h with h | h
      · exact ih x h
      · simp at h
        subst h
        exact mlt _
  exact key _
theorem W2_at (p : List UInt8) {i j : Nat} (h : 16 ≤ i) (hj : j < i) : (W2 p i)[j]? = some ((wX p i).getD j 0) ∧ (wX p i).getD j 0 < 4294967296 := by
  have hl := wX_len p h
  have e : (wX p i)[j]? = some ((wX p i)[j]'(by omega)) := List.getElem?_eq_getElem _
  have e2 : (wX p i).getD j 0 = (wX p i)[j]'(by omega) := by simp [List.getD, e]
  refine ⟨?_, ?_⟩
  · unfold W2
    rw [List.getElem?_append_left (by omega), e, e2]
  · rw [e2]
    exact wX_lt p i _ (List.getElem_mem _)
theorem W2_len (p : List UInt8) {i : Nat} (h : 16 ≤ i) (h2 : i ≤ 64) : (W2 p i).length = 64 := by
  unfold W2
  rw [List.length_append, wX_len p h, List.length_replicate]
  omega
theorem W2_next (p : List UInt8) {i : Nat} (h : 16 ≤ i) (h2 : i < 64) : (W2 p i).set i (wNext (wX p i)) = W2 p (i + 1) := by
  have hl := wX_len p h
  unfold W2
  rw [List.set_append_right _ _ (by omega), hl, Nat.sub_self]
  obtain ⟨k, hk⟩ : ∃ k, 64 - i = k + 1 := ⟨63 - i, by omega⟩
  rw [hk, List.replicate_succ, List.set_cons_zero, show 64 - (i + 1) = k by omega]
  have : wX p (i + 1) = wX p i ++ [wNext (wX p i)] := by
    unfold wX
    rw [show i + 1 - 16 = (i - 16) + 1 by omega]
    rfl
  rw [this]
  simp
theorem W12 (p : List UInt8) : W1 p 16 = W2 p 16 := rfl
theorem W2_end (p : List UInt8) : W2 p 64 = wAll p := by simp [W2, wX, wAll]
theorem s0_val {x : Nat} (hx : x < 4294967296) : bitZ .xor .u32 (bitZ .xor .u32 (rl x (32 - 7) : Nat) (rl x (32 - 18) : Nat)) (shrZ .u32 (x : Int) 3) = ((s0f x : Nat) : Int) := by
  have h1 := shr_u32 (a := x) (k := 3) (by omega)
  have e1 : ((3 : Nat) : Int) = 3 := rfl
  rw [e1] at h1
  rw [h1, xor_u32 (rl_lt hx) (rl_lt hx), xor_u32 (xor_lt (rl_lt hx) (rl_lt hx)) (div_lt32 hx _)]
  rfl
theorem s1_val {x : Nat} (hx : x < 4294967296) : bitZ .xor .u32 (bitZ .xor .u32 (rl x (32 - 17) : Nat) (rl x (32 - 19) : Nat)) (shrZ .u32 (x : Int) 10) = ((s1f x : Nat) : Int) := by
  have h1 := shr_u32 (a := x) (k := 10) (by omega)
  have e1 : ((10 : Nat) : Int) = 10 := rfl
  rw [e1] at h1
  rw [h1, xor_u32 (rl_lt hx) (rl_lt hx), xor_u32 (xor_lt (rl_lt hx) (rl_lt hx)) (div_lt32 hx _)]
  rfl
def sV (s : S8) : List VV := [wV s.a, wV s.b, wV s.c, wV s.d, wV s.e, wV s.f, wV s.g, wV s.h]
theorem kI_at' : ∀ i : Fin 64, kI[i.val]? = some ((kT.getD i.val 0 : Nat) : Int) := by decide +kernel
theorem kT_lt' : ∀ i : Fin 64, kT.getD i.val 0 < 4294967296 := by decide +kernel
theorem kV_at {i : Nat} (h : i < 64) : kV[i]? = some (wV (kT.getD i 0)) := by
  unfold kV
  rw [List.getElem?_map, kI_at' ⟨i, h⟩]
  rfl
theorem wAll_at (p : List UInt8) {i : Nat} (h : i < 64) : (wAll p)[i]? = some ((wAll p).getD i 0) ∧ (wAll p).getD i 0 < 4294967296 := by
  have := W2_at p (i := 64) (j := i) (by omega) h
  have e : wX p 64 = wAll p := rfl
  have e2 : W2 p 64 = wAll p := W2_end p
  rw [e, e2] at this
  exact this
theorem ch_val {e f g : Nat} (he : e < 4294967296) (hf : f < 4294967296) (hg : g < 4294967296) : bitZ .xor .u32 (bitZ .and .u32 (e : Int) (f : Int)) (bitZ .and .u32 (notZ .u32 (e : Int)) (g : Int)) = ((chf e f g : Nat) : Int) := by
  rw [not_u32 he, and_u32 he hf, and_u32 (xor_lt (by omega) he) hg, xor_u32 (and_lt hf) (and_lt hg)]
  rfl
theorem mj_val {a b c : Nat} (ha : a < 4294967296) (hb : b < 4294967296) (hc : c < 4294967296) : bitZ .xor .u32 (bitZ .xor .u32 (bitZ .and .u32 (a : Int) (b : Int)) (bitZ .and .u32 (a : Int) (c : Int))) (bitZ .and .u32 (b : Int) (c : Int)) = ((mjf a b c : Nat) : Int) := by
  rw [and_u32 ha hb, and_u32 ha hc, and_u32 hb hc, xor_u32 (and_lt hb) (and_lt hc), xor_u32 (xor_lt (and_lt hb) (and_lt hc)) (and_lt hc)]
  rfl
theorem GOp.st64 {o : Oper} {ts : List VV} {H H' : Heap} {K : VV → Heap → Prop} (ho : o.op = .store 110 (.tmp 11) (.tmp 86)) (h : vop Tryd.prog o ts H = some (.tp [], H')) (k : K (.tp []) H') : GOp Tryd.prog o ts H K := .via h k
/-- The struct's cells. -/
def hV (s : S8) (R N : VV) : List VV := [wV s.a, wV s.b, wV s.c, wV s.d, wV s.e, wV s.f, wV s.g, wV s.h, R, N]
theorem hV_add (s t : S8) (R N : VV) : [VV.sc (.int .u32 (((s.a : Int) + (t.a : Int)) % 4294967296)), .sc (.int .u32 (((s.b : Int) + (t.b : Int)) % 4294967296)), .sc (.int .u32 (((s.c : Int) + (t.c : Int)) % 4294967296)), .sc (.int .u32 (((s.d : Int) + (t.d : Int)) % 4294967296)), .sc (.int .u32 (((s.e : Int) + (t.e : Int)) % 4294967296)), .sc (.int .u32 (((s.f : Int) + (t.f : Int)) % 4294967296)), .sc (.int .u32 (((s.g : Int) + (t.g : Int)) % 4294967296)), .sc (.int .u32 (((s.h : Int) + (t.h : Int)) % 4294967296)), R, N] = hV (s.add t) R N := by
  simp only [hV, wV, S8.add, Int.natCast_emod, Int.natCast_add]
  rfl
theorem block_call (s : S8) (hs : s.ok) (R N : VV) (vs : List VV) (o : Nat) (p : List UInt8) (hp : p.length = 64) (hv : ∀ i b, p[i]? = some b → vs[o + i]? = some (bV b)) : VCall Tryd.prog 142 [.ptr 0 0, .sl 1 o 64 none 1] ⟨[(0, .cells true (hV s R N)), (1, .cells true vs)], 2⟩ (fun v K => v = .tp [] ∧ K = ⟨[(0, .cells true (hV (compr s p) R N)), (1, .cells true vs)], 5⟩) := by
  refine VCall.post (Q := fun v K => v = .tp [] ∧ K.get 0 = some (.cells true (hV (compr s p) R N)) ∧ K.get 1 = some (.cells true vs) ∧ K.next = 5) ?_ ?_
  case refine_2 =>
    rintro v K ⟨rfl, h0, h1, h2⟩
    refine ⟨_, _, ⟨rfl, rfl⟩, fun _ _ _ _ h => h, Nat.le_of_eq h2, fun b x hx => ?_⟩
    simp only [Heap.get, hget_cons] at hx
    split at hx
    · rename_i e; subst e; rw [h0]; exact hx
    · split at hx
      · rename_i e; subst e; rw [h1]; exact hx
      · simp [hget] at hx
  refine VCall.go Tryd.func142 rfl ?_
  repeat' (first | with_reducible refine And.intro ?_ ?_ | ((with_reducible intro hc); (try simp only [zA, zB, zC, zD, zE, zF, zG, zH, zI, zJ, zK, zL, zM, zN, zO, zP, zQ, zR, zS, zT, zU, zV, zW] at hc); (first | (exact absurd rfl hc) | (exact absurd trivial hc) | (exfalso; omega) | skip)) | ((conv => whnf); first | with_reducible refine And.intro ?_ ?_ | refine ifB_intro ?_ ?_ | refine xA (by omega) ?_ | ((refine xB ?_); intro kw hk1 hk2) | refine xC (by omega) ?_ | refine xD ?_ | refine xE (by omega) ?_ | refine xF (by omega) ?_ | refine xG ?_ | refine xH ?_ | refine xI (by omega) ?_ | refine xJ (by omega) ?_ | (with_reducible refine stopA ?_) | refine Exists.intro _ (And.intro (by rfl) ?_) | refine GOp.via (by rfl) ?_ | (with_reducible first | refine stopO ?_ | refine stopE ?_ | refine stopD ?_ | refine stopW ?_ | refine stopG ?_ | refine stopC ?_ | refine stopR ?_)))
  (refine GWP'.mk (GWP.loopB [2] (fun (i : Nat) => i ≤ 16) (fun (i : Nat) => [(19, iV i)]) (fun (i : Nat) => [(2, .cells true ((W1 p i).map wV))]) 3 (fun (i : Nat) => 16 - i) 0 (Nat.zero_le _) ?_); (conv => whnf); refine And.intro ?_ ?_)
  · focus (refine KeptA.of [] rfl rfl (by repeat' (first | exact trivial | refine And.intro rfl ?_)) rfl ?_ ?_; all_goals (repeat' (first | exact trivial | (refine And.intro ?_ ?_) | (refine Exists.intro _ (And.intro rfl ?_)) | (refine RenO.opt ?_) | (refine RenO.toOpt ?_) | (refine RenO.cells ?_) | exact RenO.defs | exact RenL.nil | (refine RenL.cons ?_ ?_) | (first | exact RenL.eq rfl (nameless_map nameless_wV _) | (with_reducible exact RenV.sc) | exact RenV.gsN | exact RenV.gsZ | exact RenV.gsL (by decide) | exact RenV.slL (by decide) | ((first | refine RenV.gsE (by (first | exact List.Mem.head _ | exact List.Mem.tail _ (List.Mem.head _) | exact List.Mem.tail _ (List.Mem.tail _ (List.Mem.head _)) | (simp; done))) ?_ | refine RenV.eq (scI_eq ?_) (nameless_sc _)); (first | rfl | omega | (simp only [List.length_append, List.length_cons, List.length_nil, List.length_map, List.length_take, List.length_drop] <;> omega) | (simp only <;> omega) | (simp <;> omega))) | exact RenV.undef) | (with_unfolding_all exact (rfl : (_ : VObj) = _)))))
  rintro i hi
  by_cases hi16 : i < 16
  · have hl := W1_len p (i := i) (by omega)
    repeat' (first | with_reducible refine And.intro ?_ ?_ | ((with_reducible intro hc); (try simp only [zA, zB, zC, zD, zE, zF, zG, zH, zI, zJ, zK, zL, zM, zN, zO, zP, zQ, zR, zS, zT, zU, zV, zW] at hc); (first | (exact absurd rfl hc) | (exact absurd trivial hc) | (exfalso; omega) | skip)) | ((conv => whnf); first | with_reducible refine And.intro ?_ ?_ | refine ifB_intro ?_ ?_ | refine xA (by omega) ?_ | ((refine xB ?_); intro kw hk1 hk2) | refine xC (by omega) ?_ | refine xD ?_ | refine xE (by omega) ?_ | refine xF (by omega) ?_ | refine xG ?_ | refine xH ?_ | refine xI (by omega) ?_ | refine xJ (by omega) ?_ | (with_reducible refine stopA ?_) | refine Exists.intro _ (And.intro (by rfl) ?_) | refine GOp.via (by rfl) ?_ | (with_reducible first | refine stopO ?_ | refine stopE ?_ | refine stopD ?_ | refine stopW ?_ | refine stopG ?_ | refine stopC ?_ | refine stopR ?_)))
    all_goals (first | omega | skip)
    refine GOp'.slN (z := 1) rfl rfl (by kernel_rfl) rfl (vb_lh ⟨by omega, by omega, by omega⟩) (by omega) ?_
    repeat' (first | with_reducible refine And.intro ?_ ?_ | ((with_reducible intro hc); (try simp only [zA, zB, zC, zD, zE, zF, zG, zH, zI, zJ, zK, zL, zM, zN, zO, zP, zQ, zR, zS, zT, zU, zV, zW] at hc); (first | (exact absurd rfl hc) | (exact absurd trivial hc) | (exfalso; omega) | skip)) | ((conv => whnf); first | with_reducible refine And.intro ?_ ?_ | refine ifB_intro ?_ ?_ | refine xA (by omega) ?_ | ((refine xB ?_); intro kw hk1 hk2) | refine xC (by omega) ?_ | refine xD ?_ | refine xE (by omega) ?_ | refine xF (by omega) ?_ | refine xG ?_ | refine xH ?_ | refine xI (by omega) ?_ | refine xJ (by omega) ?_ | (with_reducible refine stopA ?_) | refine Exists.intro _ (And.intro (by rfl) ?_) | refine GOp.via (by rfl) ?_ | (with_reducible first | refine stopO ?_ | refine stopE ?_ | refine stopD ?_ | refine stopW ?_ | refine stopG ?_ | refine stopC ?_ | refine stopR ?_)))
    all_goals (first | omega | skip)
    (refine GWP'.mk (GWP.loopB [2] (fun (j : Nat) => j ≤ 4) (fun (j : Nat) => [(30, iV j)]) (fun (j : Nat) => [(2, .cells true (((W1 p i).set i (be4 ((p.drop (4 * i)).take j))).map wV))]) 3 (fun (j : Nat) => 4 - j) 0 (Nat.zero_le _) ?_); (conv => whnf); refine And.intro ?_ ?_)
    · focus (refine KeptA.of [] rfl rfl (by repeat' (first | exact trivial | refine And.intro rfl ?_)) rfl ?_ ?_; all_goals (repeat' (first | exact trivial | (refine And.intro ?_ ?_) | (refine Exists.intro _ (And.intro rfl ?_)) | (refine RenO.opt ?_) | (refine RenO.toOpt ?_) | (refine RenO.cells ?_) | exact RenO.defs | exact RenL.nil | (refine RenL.cons ?_ ?_) | (first | exact RenL.eq (by rw [W1_self p (by omega)]) (nameless_map nameless_wV _) | (with_reducible exact RenV.sc) | exact RenV.gsN | exact RenV.gsZ | exact RenV.gsL (by decide) | exact RenV.slL (by decide) | ((first | refine RenV.gsE (by (first | exact List.Mem.head _ | exact List.Mem.tail _ (List.Mem.head _) | exact List.Mem.tail _ (List.Mem.tail _ (List.Mem.head _)) | (simp; done))) ?_ | refine RenV.eq (scI_eq ?_) (nameless_sc _)); (first | rfl | omega | (simp only [List.length_append, List.length_cons, List.length_nil, List.length_map, List.length_take, List.length_drop] <;> omega) | (simp only <;> omega) | (simp <;> omega))) | exact RenV.undef) | (with_unfolding_all exact (rfl : (_ : VObj) = _)))))
    rintro j hj
    by_cases hj4 : j < 4
    · obtain ⟨b, hb⟩ : ∃ b, p[4 * i + j]? = some b := ⟨p[4 * i + j], List.getElem?_eq_getElem (by omega)⟩
      have hvb := hv _ _ hb
      have hdj : (p.drop (4 * i))[j]? = some b := by rw [List.getElem?_drop]; exact hb
      have hbn := be4_next hdj
      have hlt := be4_lt ((p.drop (4 * i)).take j)
      have hpw : 256 ^ ((p.drop (4 * i)).take j).length ≤ 256 ^ 3 := Nat.pow_le_pow_right (by omega) (by simp; omega)
      have hwi : ((W1 p i).set i (be4 ((p.drop (4 * i)).take j)))[i]? = some (be4 ((p.drop (4 * i)).take j)) := by rw [List.getElem?_set_self (by omega)]
      have hor := or_sh8 (x := be4 ((p.drop (4 * i)).take j)) (b := b.toNat) (by omega) (u8_lt b)
      have hb8 := u8_lt b
      generalize be4 ((p.drop (4 * i)).take j) = x at *
      repeat' (first | with_reducible refine And.intro ?_ ?_ | ((with_reducible intro hc); (try simp only [zA, zB, zC, zD, zE, zF, zG, zH, zI, zJ, zK, zL, zM, zN, zO, zP, zQ, zR, zS, zT, zU, zV, zW] at hc); (first | (exact absurd rfl hc) | (exact absurd trivial hc) | (exfalso; omega) | skip)) | ((conv => whnf); first | with_reducible refine And.intro ?_ ?_ | refine ifB_intro ?_ ?_ | refine xA (by omega) ?_ | ((refine xB ?_); intro kw hk1 hk2) | refine xC (by omega) ?_ | refine xD ?_ | refine xE (by omega) ?_ | refine xF (by omega) ?_ | refine xG ?_ | refine xH ?_ | refine xI (by omega) ?_ | refine xJ (by omega) ?_ | (with_reducible refine stopA ?_) | refine Exists.intro _ (And.intro (by (first | exact vat_of vagg_u8 hvb (addmul1 rfl (by omega)) | exact vat_of vagg_w (mapw_at hwi) (addmul1 rfl (by omega)) | rfl)) ?_) | refine GOp.via (by rfl) ?_ | (with_reducible first | refine stopO ?_ | refine stopE ?_ | refine stopD ?_ | refine stopW ?_ | refine stopG ?_ | refine stopC ?_ | refine stopR ?_)))
      all_goals (first | omega | skip)
      apply GOp'.via
      case h => exact vop_store rfl (vstore_w (l := (W1 p i).set i x) (i := i) (x := x * 256 + b.toNat) rfl (addmul1 rfl (by omega)) (by simp; omega) hor)
      repeat' (first | with_reducible refine And.intro ?_ ?_ | ((with_reducible intro hc); (try simp only [zA, zB, zC, zD, zE, zF, zG, zH, zI, zJ, zK, zL, zM, zN, zO, zP, zQ, zR, zS, zT, zU, zV, zW] at hc); (first | (exact absurd rfl hc) | (exact absurd trivial hc) | (exfalso; omega) | skip)) | ((conv => whnf); first | with_reducible refine And.intro ?_ ?_ | refine ifB_intro ?_ ?_ | refine xA (by omega) ?_ | ((refine xB ?_); intro kw hk1 hk2) | refine xC (by omega) ?_ | refine xD ?_ | refine xE (by omega) ?_ | refine xF (by omega) ?_ | refine xG ?_ | refine xH ?_ | refine xI (by omega) ?_ | refine xJ (by omega) ?_ | (with_reducible refine stopA ?_) | refine Exists.intro _ (And.intro (by rfl) ?_) | refine GOp.via (by rfl) ?_ | (with_reducible first | refine stopO ?_ | refine stopE ?_ | refine stopD ?_ | refine stopW ?_ | refine stopG ?_ | refine stopC ?_ | refine stopR ?_)))
      all_goals (first | omega | skip)
      focus (refine Done'.mk ⟨(j + 1), (by omega), ?_, KeptA.of [] rfl rfl (by repeat' (first | exact trivial | refine And.intro rfl ?_)) rfl ?_ ?_⟩; (first | omega | (simp only; omega)); all_goals (repeat' (first | exact trivial | (refine And.intro ?_ ?_) | (refine Exists.intro _ (And.intro rfl ?_)) | (refine RenO.opt ?_) | (refine RenO.toOpt ?_) | (refine RenO.cells ?_) | exact RenO.defs | exact RenL.nil | (refine RenL.cons ?_ ?_) | (first | (refine RenL.eq (by rw [List.set_set, hbn]) (nameless_map nameless_wV _)) | (with_reducible exact RenV.sc) | exact RenV.gsN | exact RenV.gsZ | exact RenV.gsL (by decide) | exact RenV.slL (by decide) | ((first | refine RenV.gsE (by (first | exact List.Mem.head _ | exact List.Mem.tail _ (List.Mem.head _) | exact List.Mem.tail _ (List.Mem.tail _ (List.Mem.head _)) | (simp; done))) ?_ | refine RenV.eq (scI_eq ?_) (nameless_sc _)); (first | rfl | omega | (simp only [List.length_append, List.length_cons, List.length_nil, List.length_map, List.length_take, List.length_drop] <;> omega) | (simp only <;> omega) | (simp <;> omega))) | exact RenV.undef) | (with_unfolding_all exact (rfl : (_ : VObj) = _)))))
    · obtain rfl : j = 4 := by omega
      have hn := W1_next p (i := i) (by omega)
      repeat' (first | with_reducible refine And.intro ?_ ?_ | ((with_reducible intro hc); (try simp only [zA, zB, zC, zD, zE, zF, zG, zH, zI, zJ, zK, zL, zM, zN, zO, zP, zQ, zR, zS, zT, zU, zV, zW] at hc); (first | (exact absurd rfl hc) | (exact absurd trivial hc) | (exfalso; omega) | skip)) | ((conv => whnf); first | with_reducible refine And.intro ?_ ?_ | refine ifB_intro ?_ ?_ | refine xA (by omega) ?_ | ((refine xB ?_); intro kw hk1 hk2) | refine xC (by omega) ?_ | refine xD ?_ | refine xE (by omega) ?_ | refine xF (by omega) ?_ | refine xG ?_ | refine xH ?_ | refine xI (by omega) ?_ | refine xJ (by omega) ?_ | (with_reducible refine stopA ?_) | refine Exists.intro _ (And.intro (by rfl) ?_) | refine GOp.via (by rfl) ?_ | (with_reducible first | refine stopO ?_ | refine stopE ?_ | refine stopD ?_ | refine stopW ?_ | refine stopG ?_ | refine stopC ?_ | refine stopR ?_)))
      all_goals (first | omega | skip)
      focus (refine Done'.mk ⟨(i + 1), (by omega), ?_, KeptA.of [] rfl rfl (by repeat' (first | exact trivial | refine And.intro rfl ?_)) rfl ?_ ?_⟩; (first | omega | (simp only; omega)); all_goals (repeat' (first | exact trivial | (refine And.intro ?_ ?_) | (refine Exists.intro _ (And.intro rfl ?_)) | (refine RenO.opt ?_) | (refine RenO.toOpt ?_) | (refine RenO.cells ?_) | exact RenO.defs | exact RenL.nil | (refine RenL.cons ?_ ?_) | (first | (refine RenL.eq (by rw [hn]) (nameless_map nameless_wV _)) | (with_reducible exact RenV.sc) | exact RenV.gsN | exact RenV.gsZ | exact RenV.gsL (by decide) | exact RenV.slL (by decide) | ((first | refine RenV.gsE (by (first | exact List.Mem.head _ | exact List.Mem.tail _ (List.Mem.head _) | exact List.Mem.tail _ (List.Mem.tail _ (List.Mem.head _)) | (simp; done))) ?_ | refine RenV.eq (scI_eq ?_) (nameless_sc _)); (first | rfl | omega | (simp only [List.length_append, List.length_cons, List.length_nil, List.length_map, List.length_take, List.length_drop] <;> omega) | (simp only <;> omega) | (simp <;> omega))) | exact RenV.undef) | (with_unfolding_all exact (rfl : (_ : VObj) = _)))))
  · obtain rfl : i = 16 := by omega
    clear hi hi16
    rw [W12]
    repeat' (first | with_reducible refine And.intro ?_ ?_ | ((with_reducible intro hc); (try simp only [zA, zB, zC, zD, zE, zF, zG, zH, zI, zJ, zK, zL, zM, zN, zO, zP, zQ, zR, zS, zT, zU, zV, zW] at hc); (first | (exact absurd rfl hc) | (exact absurd trivial hc) | (exfalso; omega) | skip)) | ((conv => whnf); first | with_reducible refine And.intro ?_ ?_ | refine ifB_intro ?_ ?_ | refine xA (by omega) ?_ | ((refine xB ?_); intro kw hk1 hk2) | refine xC (by omega) ?_ | refine xD ?_ | refine xE (by omega) ?_ | refine xF (by omega) ?_ | refine xG ?_ | refine xH ?_ | refine xI (by omega) ?_ | refine xJ (by omega) ?_ | (with_reducible refine stopA ?_) | refine Exists.intro _ (And.intro (by rfl) ?_) | refine GOp.via (by rfl) ?_ | (with_reducible first | refine stopO ?_ | refine stopE ?_ | refine stopD ?_ | refine stopW ?_ | refine stopG ?_ | refine stopC ?_ | refine stopR ?_)))
    all_goals (first | omega | skip)
    (refine GWP'.mk (GWP.loopB [2] (fun (i : Nat) => 16 ≤ i ∧ i ≤ 64) (fun (i : Nat) => [(8, iV i)]) (fun (i : Nat) => [(2, .cells true ((W2 p i).map wV))]) 3 (fun (i : Nat) => 64 - i) 16 (by omega) ?_); (conv => whnf); refine And.intro ?_ ?_)
    · focus (refine KeptA.of [] rfl rfl (by repeat' (first | exact trivial | refine And.intro rfl ?_)) rfl ?_ ?_; all_goals (repeat' (first | exact trivial | (refine And.intro ?_ ?_) | (refine Exists.intro _ (And.intro rfl ?_)) | (refine RenO.opt ?_) | (refine RenO.toOpt ?_) | (refine RenO.cells ?_) | exact RenO.defs | exact RenL.nil | (refine RenL.cons ?_ ?_) | (first | exact RenL.of (nameless_map nameless_wV _) | (with_reducible exact RenV.sc) | exact RenV.gsN | exact RenV.gsZ | exact RenV.gsL (by decide) | exact RenV.slL (by decide) | ((first | refine RenV.gsE (by (first | exact List.Mem.head _ | exact List.Mem.tail _ (List.Mem.head _) | exact List.Mem.tail _ (List.Mem.tail _ (List.Mem.head _)) | (simp; done))) ?_ | refine RenV.eq (scI_eq ?_) (nameless_sc _)); (first | rfl | omega | (simp only [List.length_append, List.length_cons, List.length_nil, List.length_map, List.length_take, List.length_drop] <;> omega) | (simp only <;> omega) | (simp <;> omega))) | exact RenV.undef) | (with_unfolding_all exact (rfl : (_ : VObj) = _)))))
    rintro i ⟨hi, hi2⟩
    by_cases hi64 : i < 64
    · obtain ⟨g16, l16⟩ := W2_at p (j := i - 16) hi (by omega)
      obtain ⟨g15, l15⟩ := W2_at p (j := i - 15) hi (by omega)
      obtain ⟨g7, l7⟩ := W2_at p (j := i - 7) hi (by omega)
      obtain ⟨g2, l2⟩ := W2_at p (j := i - 2) hi (by omega)
      have hn := W2_next p hi hi64
      have hlen := W2_len p hi hi2
      have hwn : wNext (wX p i) = ((wX p i).getD (i - 16) 0 + (wX p i).getD (i - 7) 0 + s0f ((wX p i).getD (i - 15) 0) + s1f ((wX p i).getD (i - 2) 0)) % 4294967296 := by
        unfold wNext; rw [wX_len p hi]
      generalize (wX p i).getD (i - 16) 0 = a16 at *
      generalize (wX p i).getD (i - 15) 0 = a15 at *
      generalize (wX p i).getD (i - 7) 0 = a7 at *
      generalize (wX p i).getD (i - 2) 0 = a2 at *
      have v0 := s0_val l15
      have v1 := s1_val l2
      repeat' (first | with_reducible refine And.intro ?_ ?_ | ((with_reducible intro hc); (try simp only [zA, zB, zC, zD, zE, zF, zG, zH, zI, zJ, zK, zL, zM, zN, zO, zP, zQ, zR, zS, zT, zU, zV, zW] at hc); (first | (exact absurd rfl hc) | (exact absurd trivial hc) | (exfalso; omega) | skip)) | exact Is.mk rfl rfl | ((conv => whnf); first | with_reducible refine And.intro ?_ ?_ | with_reducible intro hx | exact Is.mk rfl rfl | (with_reducible first | apply Val.via | apply ValH.via) | refine ifB_intro ?_ ?_ | refine xA (by omega) ?_ | ((refine xB ?_); intro kw hk1 hk2) | refine xC (by omega) ?_ | refine xD ?_ | refine xE (by omega) ?_ | refine xF (by omega) ?_ | refine xG ?_ | refine xH ?_ | refine xI (by omega) ?_ | refine xJ (by omega) ?_ | (with_reducible refine stopA ?_) | refine Exists.intro _ (And.intro (by (first | exact vat_of vagg_w (mapw_at g15) (addmul1 rfl (by omega)) | exact vat_of vagg_w (mapw_at g2) (addmul1 rfl (by omega)) | exact vat_of vagg_w (mapw_at g16) (addmul1 rfl (by omega)) | exact vat_of vagg_w (mapw_at g7) (addmul1 rfl (by omega)) | rfl)) ?_) | refine GOp.drawn (by rfl) (by rfl) (Nat.le_of_ble_eq_true (by rfl)) (by rfl) | refine GOp.via (by rfl) ?_ | refine GWP.drawY mixed _ (by kernel_rfl) (by rfl) ?_ | (first | (refine GCall.mk ((rot_call a15 l15 7 (by omega) (by omega) (-7) (by omega) _).mono ?_); rintro _ _ ⟨rfl, rfl⟩) | (refine GCall.mk ((rot_call a15 l15 18 (by omega) (by omega) (-18) (by omega) _).mono ?_); rintro _ _ ⟨rfl, rfl⟩) | (refine GCall.mk ((rot_call a2 l2 17 (by omega) (by omega) (-17) (by omega) _).mono ?_); rintro _ _ ⟨rfl, rfl⟩) | (refine GCall.mk ((rot_call a2 l2 19 (by omega) (by omega) (-19) (by omega) _).mono ?_); rintro _ _ ⟨rfl, rfl⟩)) | (with_reducible first | refine stopO ?_ | refine stopE ?_ | refine stopD ?_ | refine stopW ?_ | refine stopG ?_ | refine stopC ?_ | refine stopR ?_)))
      case h =>
        apply GOp'.via
        case h => exact vop_store rfl (vstore_w (l := W2 p i) (i := i) (x := wNext (wX p i)) rfl (addmul1 rfl (by omega)) (by omega) (by rw [v0, v1, hwn]; omega))
        exact Is.mk rfl rfl
      all_goals (first | omega | skip)
      repeat' (first | with_reducible refine And.intro ?_ ?_ | ((with_reducible intro hc); (try simp only [zA, zB, zC, zD, zE, zF, zG, zH, zI, zJ, zK, zL, zM, zN, zO, zP, zQ, zR, zS, zT, zU, zV, zW] at hc); (first | (exact absurd rfl hc) | (exact absurd trivial hc) | (exfalso; omega) | skip)) | exact Is.mk rfl rfl | ((conv => whnf); first | with_reducible refine And.intro ?_ ?_ | with_reducible intro hx | exact Is.mk rfl rfl | (with_reducible first | apply Val.via | apply ValH.via) | refine ifB_intro ?_ ?_ | refine xA (by omega) ?_ | ((refine xB ?_); intro kw hk1 hk2) | refine xC (by omega) ?_ | refine xD ?_ | refine xE (by omega) ?_ | refine xF (by omega) ?_ | refine xG ?_ | refine xH ?_ | refine xI (by omega) ?_ | refine xJ (by omega) ?_ | (with_reducible refine stopA ?_) | refine Exists.intro _ (And.intro (by rfl) ?_) | refine GOp.drawn (by rfl) (by rfl) (Nat.le_of_ble_eq_true (by rfl)) (by rfl) | refine GOp.via (by rfl) ?_ | refine GWP.drawY mixed _ (by kernel_rfl) (by rfl) ?_ | fail | (with_reducible first | refine stopO ?_ | refine stopE ?_ | refine stopD ?_ | refine stopW ?_ | refine stopG ?_ | refine stopC ?_ | refine stopR ?_)))
      all_goals (first | omega | skip)
      rw [hn]
      focus (refine Done'.mk ⟨(i + 1), ⟨by omega, by omega⟩, ?_, KeptA.of [] rfl rfl (by repeat' (first | exact trivial | refine And.intro rfl ?_)) rfl ?_ ?_⟩; (first | omega | (simp only; omega)); all_goals (repeat' (first | exact trivial | (refine And.intro ?_ ?_) | (refine Exists.intro _ (And.intro rfl ?_)) | (refine RenO.opt ?_) | (refine RenO.toOpt ?_) | (refine RenO.cells ?_) | exact RenO.defs | exact RenL.nil | (refine RenL.cons ?_ ?_) | (first | (exact RenL.of (nameless_map nameless_wV _)) | (with_reducible exact RenV.sc) | exact RenV.gsN | exact RenV.gsZ | exact RenV.gsL (by decide) | exact RenV.slL (by decide) | ((first | refine RenV.gsE (by (first | exact List.Mem.head _ | exact List.Mem.tail _ (List.Mem.head _) | exact List.Mem.tail _ (List.Mem.tail _ (List.Mem.head _)) | (simp; done))) ?_ | refine RenV.eq (scI_eq ?_) (nameless_sc _)); (first | rfl | omega | (simp only [List.length_append, List.length_cons, List.length_nil, List.length_map, List.length_take, List.length_drop] <;> omega) | (simp only <;> omega) | (simp <;> omega))) | exact RenV.undef) | (with_unfolding_all exact (rfl : (_ : VObj) = _)))))
    · obtain rfl : i = 64 := by omega
      clear hi hi2 hi64
      have hwl : ∀ i, i < 64 → (wAll p)[i]? = some ((wAll p).getD i 0) ∧ (wAll p).getD i 0 < 4294967296 := fun i h => wAll_at p h
      have hcm : compr s p = s.add (rnds s (wAll p) 64) := rfl
      rw [hcm]
      rw [W2_end]
      clear hcm
      generalize wAll p = wl at *
      repeat' (first | with_reducible refine And.intro ?_ ?_ | ((with_reducible intro hc); (try simp only [zA, zB, zC, zD, zE, zF, zG, zH, zI, zJ, zK, zL, zM, zN, zO, zP, zQ, zR, zS, zT, zU, zV, zW] at hc); (first | (exact absurd rfl hc) | (exact absurd trivial hc) | (exfalso; omega) | skip)) | ((conv => whnf); first | with_reducible refine And.intro ?_ ?_ | refine ifB_intro ?_ ?_ | refine xA (by omega) ?_ | ((refine xB ?_); intro kw hk1 hk2) | refine xC (by omega) ?_ | refine xD ?_ | refine xE (by omega) ?_ | refine xF (by omega) ?_ | refine xG ?_ | refine xH ?_ | refine xI (by omega) ?_ | refine xJ (by omega) ?_ | (with_reducible refine stopA ?_) | refine Exists.intro _ (And.intro (by rfl) ?_) | (refine GOp.st64 (H' := ⟨[(3, .cells true kV), (2, .cells true (wl.map wV)), (0, .cells true (hV s R N)), (1, .cells true vs)], 4⟩) (by rfl) (by kernel_rfl) ?_) | refine GOp.via (by rfl) ?_ | (with_reducible first | refine stopO ?_ | refine stopE ?_ | refine stopD ?_ | refine stopW ?_ | refine stopG ?_) | (refine GCall.mk ((consts_call _).mono ?_); rintro _ _ ⟨rfl, rfl⟩) | (with_reducible refine stopC ?_) | (with_reducible refine stopR ?_)))
      all_goals (first | omega | skip)
      refine GWP'.keep [(0, .ptr 0 0), (4, .ptr 2 0), (11, .ptr 3 0), (12, .ptr 4 0), (91, iV 0)] 182 [(4, .cells true (sV s)), (3, .cells true kV), (2, .cells true (wl.map wV)), (0, .cells true (hV s R N)), (1, .cells true vs)] 5 rfl ?_ rfl ?_ ?_
      · (repeat' (first | exact trivial | refine And.intro rfl ?_))
      · exact (by repeat' (first | exact trivial | refine And.intro rfl ?_))
      have hkv : ∀ i, i < 64 → kV[i]? = some (wV (kT.getD i 0)) := fun i h => kV_at h
      generalize kV = kv at *
      conv => whnf
      refine stopW ?_
      (refine GWP'.mk (GWP.loopB [4] (fun (i : Nat) => i ≤ 64) (fun (i : Nat) => [(91, iV i)]) (fun (i : Nat) => [(4, .cells true (sV (rnds s wl i)))]) 5 (fun (i : Nat) => 64 - i) 0 (Nat.zero_le _) ?_); (conv => whnf); refine And.intro ?_ ?_)
      · focus (refine KeptA.of [] rfl rfl (by repeat' (first | exact trivial | refine And.intro rfl ?_)) rfl ?_ ?_; all_goals (repeat' (first | exact trivial | (refine And.intro ?_ ?_) | (refine Exists.intro _ (And.intro rfl ?_)) | (refine RenO.opt ?_) | (refine RenO.toOpt ?_) | (refine RenO.cells ?_) | exact RenO.defs | exact RenL.nil | (refine RenL.cons ?_ ?_) | (first | exact RenL.eq rfl (by intro v hv; simp [sV] at hv; rcases hv with rfl | rfl | rfl | rfl | rfl | rfl | rfl | rfl <;> exact nameless_wV _) | (with_reducible exact RenV.sc) | exact RenV.gsN | exact RenV.gsZ | exact RenV.gsL (by decide) | exact RenV.slL (by decide) | ((first | refine RenV.gsE (by (first | exact List.Mem.head _ | exact List.Mem.tail _ (List.Mem.head _) | exact List.Mem.tail _ (List.Mem.tail _ (List.Mem.head _)) | (simp; done))) ?_ | refine RenV.eq (scI_eq ?_) (nameless_sc _)); (first | rfl | omega | (simp only [List.length_append, List.length_cons, List.length_nil, List.length_map, List.length_take, List.length_drop] <;> omega) | (simp only <;> omega) | (simp <;> omega))) | exact RenV.undef) | (with_unfolding_all exact (rfl : (_ : VObj) = _)))))
      rintro i hi
      by_cases hi64 : i < 64
      · have hok := rnds_ok hs wl i
        have hnx : rnds s wl (i + 1) = roundF (rnds s wl i) (kT.getD i 0) (wl.getD i 0) := rfl
        obtain ⟨gw, lw⟩ := hwl i hi64
        have gk := hkv i hi64
        have lk := kT_lt' ⟨i, hi64⟩
        simp only at lk
        generalize rnds s wl i = st at *
        obtain ⟨o1, o2, o3, o4, o5, o6, o7, o8⟩ := hok
        have hch := ch_val o5 o6 o7
        have hmj := mj_val o1 o2 o3
        generalize kT.getD i 0 = k at *
        generalize wl.getD i 0 = w at *
        have e1 : ((((((((st.h : Int) + (tn st.e 6 11 25 : Nat)) % 4294967296 + bitZ .xor .u32 (bitZ .and .u32 (st.e : Int) (st.f : Int)) (bitZ .and .u32 (notZ .u32 (st.e : Int)) (st.g : Int))) % 4294967296 + (k : Int)) % 4294967296 + (w : Int)) % 4294967296 + (((tn st.a 2 13 22 : Nat) : Int) + bitZ .xor .u32 (bitZ .xor .u32 (bitZ .and .u32 (st.a : Int) (st.b : Int)) (bitZ .and .u32 (st.a : Int) (st.c : Int))) (bitZ .and .u32 (st.b : Int) (st.c : Int))) % 4294967296) % 4294967296)) = ((rnds s wl (i + 1)).a : Int) := by
          rw [hnx, hch, hmj]; simp only [roundF, t1f, t2f]; omega
        have e5 : (((st.d : Int) + (((((st.h : Int) + (tn st.e 6 11 25 : Nat)) % 4294967296 + bitZ .xor .u32 (bitZ .and .u32 (st.e : Int) (st.f : Int)) (bitZ .and .u32 (notZ .u32 (st.e : Int)) (st.g : Int))) % 4294967296 + (k : Int)) % 4294967296 + (w : Int)) % 4294967296) % 4294967296) = ((rnds s wl (i + 1)).e : Int) := by
          rw [hnx, hch]; simp only [roundF, t1f]; omega
        have f2 : (rnds s wl (i + 1)).b = st.a := by rw [hnx]; rfl
        have f3 : (rnds s wl (i + 1)).c = st.b := by rw [hnx]; rfl
        have f4 : (rnds s wl (i + 1)).d = st.c := by rw [hnx]; rfl
        have f6 : (rnds s wl (i + 1)).f = st.e := by rw [hnx]; rfl
        have f7 : (rnds s wl (i + 1)).g = st.f := by rw [hnx]; rfl
        have f8 : (rnds s wl (i + 1)).h = st.g := by rw [hnx]; rfl
        clear hch hmj
        repeat' (first | with_reducible refine And.intro ?_ ?_ | ((with_reducible intro hc); (try simp only [zA, zB, zC, zD, zE, zF, zG, zH, zI, zJ, zK, zL, zM, zN, zO, zP, zQ, zR, zS, zT, zU, zV, zW] at hc); (first | (exact absurd rfl hc) | (exact absurd trivial hc) | (exfalso; omega) | skip)) | exact Is.mk rfl rfl | ((conv => whnf); first | with_reducible refine And.intro ?_ ?_ | with_reducible intro hx | exact Is.mk rfl rfl | (with_reducible first | apply Val.via | apply ValH.via) | refine ifB_intro ?_ ?_ | refine xA (by omega) ?_ | ((refine xB ?_); intro kw hk1 hk2) | refine xC (by omega) ?_ | refine xD ?_ | refine xE (by omega) ?_ | refine xF (by omega) ?_ | refine xG ?_ | refine xH ?_ | refine xI (by omega) ?_ | refine xJ (by omega) ?_ | (with_reducible refine stopA ?_) | refine Exists.intro _ (And.intro (by (first | exact vat_of vagg_w gk (addmul1 rfl (by omega)) | exact vat_of vagg_w (mapw_at gw) (addmul1 rfl (by omega)) | rfl)) ?_) | refine GOp.drawn (by rfl) (by rfl) (Nat.le_of_ble_eq_true (by rfl)) (by rfl) | refine GOp.via (by rfl) ?_ | refine GWP.drawY mixed _ (by kernel_rfl) (by rfl) ?_ | (first | (refine GCall.mk ((turn_call st.e o5 6 11 25 (by omega) (by omega) (by omega) _).mono ?_); rintro _ _ ⟨rfl, rfl⟩) | (refine GCall.mk ((turn_call st.a o1 2 13 22 (by omega) (by omega) (by omega) _).mono ?_); rintro _ _ ⟨rfl, rfl⟩)) | (with_reducible first | refine stopO ?_ | refine stopE ?_ | refine stopD ?_ | refine stopW ?_ | refine stopG ?_ | refine stopC ?_ | refine stopR ?_)))
        all_goals (first | omega | skip)
        focus (refine Done'.mk ⟨(i + 1), (by omega), ?_, KeptA.of [] rfl rfl (by repeat' (first | exact trivial | refine And.intro rfl ?_)) rfl ?_ ?_⟩; (first | omega | (simp only; omega)); all_goals (repeat' (first | exact trivial | (refine And.intro ?_ ?_) | (refine Exists.intro _ (And.intro rfl ?_)) | (refine RenO.opt ?_) | (refine RenO.toOpt ?_) | (refine RenO.cells ?_) | exact RenO.defs | exact RenL.nil | (refine RenL.cons ?_ ?_) | (first | (first | exact RenV.eq (scI_eq e1) (nameless_sc _) | exact RenV.eq (scI_eq (by rw [f2])) (nameless_sc _) | exact RenV.eq (scI_eq (by rw [f3])) (nameless_sc _) | exact RenV.eq (scI_eq (by rw [f4])) (nameless_sc _) | exact RenV.eq (scI_eq e5) (nameless_sc _) | exact RenV.eq (scI_eq (by rw [f6])) (nameless_sc _) | exact RenV.eq (scI_eq (by rw [f7])) (nameless_sc _) | exact RenV.eq (scI_eq (by rw [f8])) (nameless_sc _)) | (with_reducible exact RenV.sc) | exact RenV.gsN | exact RenV.gsZ | exact RenV.gsL (by decide) | exact RenV.slL (by decide) | ((first | refine RenV.gsE (by (first | exact List.Mem.head _ | exact List.Mem.tail _ (List.Mem.head _) | exact List.Mem.tail _ (List.Mem.tail _ (List.Mem.head _)) | (simp; done))) ?_ | refine RenV.eq (scI_eq ?_) (nameless_sc _)); (first | rfl | omega | (simp only [List.length_append, List.length_cons, List.length_nil, List.length_map, List.length_take, List.length_drop] <;> omega) | (simp only <;> omega) | (simp <;> omega))) | exact RenV.undef) | (with_unfolding_all exact (rfl : (_ : VObj) = _)))))
      · obtain rfl : i = 64 := by omega
        generalize rnds s wl 64 = st
        have hend := hV_add s st R N
        repeat' (first | with_reducible refine And.intro ?_ ?_ | ((with_reducible intro hc); (try simp only [zA, zB, zC, zD, zE, zF, zG, zH, zI, zJ, zK, zL, zM, zN, zO, zP, zQ, zR, zS, zT, zU, zV, zW] at hc); (first | (exact absurd rfl hc) | (exact absurd trivial hc) | (exfalso; omega) | skip)) | ((conv => whnf); first | with_reducible refine And.intro ?_ ?_ | refine ifB_intro ?_ ?_ | refine xA (by omega) ?_ | ((refine xB ?_); intro kw hk1 hk2) | refine xC (by omega) ?_ | refine xD ?_ | refine xE (by omega) ?_ | refine xF (by omega) ?_ | refine xG ?_ | refine xH ?_ | refine xI (by omega) ?_ | refine xJ (by omega) ?_ | (with_reducible refine stopA ?_) | refine Exists.intro _ (And.intro (by rfl) ?_) | refine GOp.via (by rfl) ?_ | (with_reducible first | refine stopO ?_ | refine stopE ?_ | refine stopD ?_ | refine stopW ?_ | refine stopG ?_ | refine stopC ?_ | refine stopR ?_)))
        all_goals (first | omega | skip)
        refine GWP'.mk (GWP.rounds 9 (GWP.step ?_))
        repeat' (first | with_reducible refine And.intro ?_ ?_ | ((with_reducible intro hc); (try simp only [zA, zB, zC, zD, zE, zF, zG, zH, zI, zJ, zK, zL, zM, zN, zO, zP, zQ, zR, zS, zT, zU, zV, zW] at hc); (first | (exact absurd rfl hc) | (exact absurd trivial hc) | (exfalso; omega) | skip)) | exact Is.mk rfl rfl | ((conv => whnf); first | with_reducible refine And.intro ?_ ?_ | with_reducible intro hx | exact Is.mk rfl rfl | (with_reducible first | apply Val.via | apply ValH.via) | refine ifB_intro ?_ ?_ | refine xA (by omega) ?_ | ((refine xB ?_); intro kw hk1 hk2) | refine xC (by omega) ?_ | refine xD ?_ | refine xE (by omega) ?_ | refine xF (by omega) ?_ | refine xG ?_ | refine xH ?_ | refine xI (by omega) ?_ | refine xJ (by omega) ?_ | (with_reducible refine stopA ?_) | refine Exists.intro _ (And.intro (by rfl) ?_) | refine GOp.drawn (by rfl) (by rfl) (Nat.le_of_ble_eq_true (by rfl)) (by rfl) | refine GOp.via (by rfl) ?_ | refine GWP.drawY mixed _ (by kernel_rfl) (by rfl) ?_ | fail | (with_reducible first | refine stopO ?_ | refine stopE ?_ | refine stopD ?_ | refine stopW ?_ | refine stopG ?_ | refine stopC ?_ | refine stopR ?_)))
        iterate 8 (all_goals (first | (refine GRnd'.step ?_; repeat' (first | with_reducible refine And.intro ?_ ?_ | ((with_reducible intro hc); (try simp only [zA, zB, zC, zD, zE, zF, zG, zH, zI, zJ, zK, zL, zM, zN, zO, zP, zQ, zR, zS, zT, zU, zV, zW] at hc); (first | (exact absurd rfl hc) | (exact absurd trivial hc) | (exfalso; omega) | skip)) | exact Is.mk rfl rfl | ((conv => whnf); first | with_reducible refine And.intro ?_ ?_ | with_reducible intro hx | exact Is.mk rfl rfl | (with_reducible first | apply Val.via | apply ValH.via) | refine ifB_intro ?_ ?_ | refine xA (by omega) ?_ | ((refine xB ?_); intro kw hk1 hk2) | refine xC (by omega) ?_ | refine xD ?_ | refine xE (by omega) ?_ | refine xF (by omega) ?_ | refine xG ?_ | refine xH ?_ | refine xI (by omega) ?_ | refine xJ (by omega) ?_ | (with_reducible refine stopA ?_) | refine Exists.intro _ (And.intro (by rfl) ?_) | refine GOp.drawn (by rfl) (by rfl) (Nat.le_of_ble_eq_true (by rfl)) (by rfl) | refine GOp.via (by rfl) ?_ | refine GWP.drawY mixed _ (by kernel_rfl) (by rfl) ?_ | fail | (with_reducible first | refine stopO ?_ | refine stopE ?_ | refine stopD ?_ | refine stopW ?_ | refine stopG ?_ | refine stopC ?_ | refine stopR ?_)))) | skip))
        all_goals (first | omega | (refine Done'.mk (And.intro rfl (And.intro ?_ (And.intro rfl rfl))); rw [← hend]; rfl))
end Go.Proofs.YtmmjgbdihgdekaaDoor

