import Derived.Test.YtmmjgbdihgdekaaDoorGb
import Derived.Stop.BytesEq
/- The sum of what was added, walked. -/
namespace Go.Proofs.YtmmjgbdihgdekaaDoor
open Go Go.RowKit
set_option linter.unusedSimpArgs false
set_option linter.unusedVariables false
set_option maxRecDepth 100000
set_option maxHeartbeats 4000000
theorem VCall.ungs2 {P : Program} {f : FuncId} {H : Heap} {Q : VV → Heap → Prop} {a : VV} {b n z : Nat} {vs : List VV} (hg : H.get b = some (.opt vs)) (hn : n ≠ 0) (h : VCall P f [a, .sl b 0 n none z] (H.set b (.cells true vs)) Q) : VCall P f [a, .gs b n z] H Q :=
  fun B M Z ρ w ra h1 h2 => by
    obtain ⟨hlen, hrel⟩ := h2
    match hra : ra.toList, hlen with
    | [x0, y], _ =>
      have hv := hrel 1 _ y rfl (by rw [hra]; rfl)
      cases hv with
      | gs0 => exact absurd rfl hn
      | gs hk hcap hz h0 =>
        refine h B M Z ρ w ra (h1.toCells hg hk) ⟨by rw [hra]; rfl, fun i u x hu hx => ?_⟩
        match i, hu, hx with
        | 0, hu, hx => exact hrel 0 u x hu hx
        | 1, hu, hx =>
          simp at hu
          subst hu
          rw [hra] at hx
          simp at hx
          subst hx
          exact .sl hk hcap (fun _ e => by cases e) (fun _ => by omega)
theorem addG_call (s : S8) (hs : s.ok) (r l : List UInt8) (n : Nat) (hn : n + l.length < 18446744073709551616) (hl : r.length + l.length ≤ 100000000000) (h0 : l.length ≠ 0) : VCall Tryd.prog 104 [.ptr 0 0, .gs 2 l.length 1] ⟨[(0, .cells true (hV s (.gs 1 r.length 1) (.sc (nV n)))), (1, .opt (r.map bV)), (2, .opt (l.map bV))], 3⟩ (fun v K => v = .tp [] ∧ K = ⟨[(0, .cells true (hV (blkF s (r ++ l)).1 (.gs 3 (blkF s (r ++ l)).2.length 1) (.sc (nV (n + l.length))))), (3, .opt ((blkF s (r ++ l)).2.map bV)), (2, .cells true (l.map bV))], 4⟩) :=
  VCall.ungs2 rfl h0 (addB_call s hs r l n hn hl (l.map bV) 0 (by simp) (by rw [List.drop_zero, List.take_of_length_le (by simp)]) (nameless_map nameless_bV l))
theorem GQuo.nat {a b : Int} {K : Int → Prop} (h : 0 ≤ a ∧ 0 < b ∧ a < 9223372036854775808) (k : ∀ q : Nat, a / b = (q : Int) → K (q : Int)) : GQuo .i64 a b K := GQuo.i64 h (by
  have h2 := Int.toNat_of_nonneg (Int.ediv_nonneg h.1 (Int.le_of_lt h.2.1))
  have := k (a / b).toNat h2.symm
  rwa [h2] at this)
theorem GRem.nat {a b : Int} {K : Int → Prop} (h : 0 ≤ a ∧ 0 < b) (k : ∀ q : Nat, (q : Int) = a % b → K (q : Int)) : GRem a b K := GRem.pos h.1 (by
  have h2 := Int.toNat_of_nonneg (Int.emod_nonneg a (Int.ne_of_gt h.2))
  have := k (a % b).toNat h2
  rwa [h2] at this)
theorem addfld {q a z i : Nat} (hq : q = 0) (hz : z = 1) (h : a = i) : q + a * z = i := by subst hq hz h; omega
theorem setRun_full {α : Type} {us l : List α} (h : us.length = l.length) : setRun us 0 l = l := by
  apply List.ext_getElem?
  intro i
  rw [getElem?_setRun l us 0 i (by omega)]
  split
  · simp
  · rename_i hh
    rw [List.getElem?_eq_none (by omega), List.getElem?_eq_none (by omega)]
theorem GOp.stA {o : Oper} {ts : List VV} {H : Heap} {K : VV → Heap → Prop} {b : Nat} {us vs : List VV} {a x : Operand} (ho : o.op = .store 34 a x) (ha : veval ts a = .ptr b 0) (hx : veval ts x = .ag vs) (hg : H.get b = some (.cells true us)) (hu : us.length = 32) (hv : vs.length = 32) (h1 : vs.all VV.one = true) (k : K (.tp []) (H.set b (.cells true vs))) : GOp Tryd.prog o ts H K := by
  refine .via (vop_store ho (H' := H.set b (.cells true vs)) ?_) k
  have hz : vsize Tryd.prog 34 = some 32 := by kernel_rfl
  have h2 : Nat.ble (0 + vs.length) us.length = true := Nat.ble_eq_true_of_le (by omega)
  have h3 : Nat.beq vs.length 32 = true := by rw [hv]; rfl
  rw [ha, hx]
  simp only [vstore, hg, cellsOf, h1, hz, h3, h2, Bool.and_self, setRun_full (hu.trans hv.symm)]
theorem vat_arr {vs : List VV} {q : Nat} (hv : vs.length = 32) (hq : q = 0) : vat Tryd.prog 34 vs q = some (.ag vs) := by
  subst hq
  have h0 : vagg Tryd.prog 34 = some true := by kernel_rfl
  have hz : vsize Tryd.prog 34 = some 32 := by kernel_rfl
  have h2 : Nat.ble (0 + 32) vs.length = true := Nat.ble_eq_true_of_le (by omega)
  simp only [vat, h0, hz, h2, List.drop_zero]
  rw [List.take_of_length_le (by omega)]
theorem vresAll_arr {fn : Func} {ts : List VV} {H : Heap} {a b : Nat} {vs : List VV} (hf : fn.results.toList = [.cell a 34]) (ha : (ts[a]?).getD (.tp []) = .ptr b 0) (hg : H.get b = some (.cells true vs)) (hv : vs.length = 32) : vresAll Tryd.prog fn ts H = some (.ag vs) := by
  simp only [vresAll, hf, vresults, vresult, vload, ha, hg, vat_arr hv rfl]
theorem be8_len (n : Nat) : (be8 n).length = 8 := rfl
theorem be8_at {n i : Nat} (h : i < 8) : (be8 n)[i]? = some (UInt8.ofNat (n / 2 ^ (56 - 8 * i))) := by
  have : i = 0 ∨ i = 1 ∨ i = 2 ∨ i = 3 ∨ i = 4 ∨ i = 5 ∨ i = 6 ∨ i = 7 := by omega
  rcases this with rfl | rfl | rfl | rfl | rfl | rfl | rfl | rfl
  all_goals (simp [be8])
theorem u8V_of {n : Nat} {z : Int} (h : z = (n : Int)) : VV.sc (.int .u8 (z % 256)) = bV (UInt8.ofNat n) := by
  subst h
  show _ = VV.sc (.int .u8 ((UInt8.ofNat n).toNat : Int))
  rw [UInt8.toNat_ofNat']
  refine scI_eq ?_
  omega
theorem sumM_call (s : S8) (hs : s.ok) (r : List UInt8) (n : Nat) (hr : r.length < 64) (hn : n ≤ 100000000000) : VCall Tryd.prog 105 [.ptr 0 0] ⟨[(0, .cells true (hV s (.gs 1 r.length 1) (.sc (nV n)))), (1, .opt (r.map bV))], 2⟩ (fun v K => v = .ag ((blkF s (r ++ padT n)).1.bytes.map bV) ∧ K = ⟨[(0, .cells true (hV s (.gs 1 r.length 1) (.sc (nV n)))), (1, .opt (r.map bV))], 2⟩) := by
  refine VCall.outR (Q := fun v K => v = .ag ((blkF s (r ++ padT n)).1.bytes.map bV) ∧ K.get 0 = some (.cells true (hV s (.gs 1 r.length 1) (.sc (nV n)))) ∧ K.get 1 = some (.opt (r.map bV))) ?_ ?_
  case refine_2 =>
    rintro v K ⟨rfl, h0, h1⟩
    refine ⟨_, [(0, .cells true (hV s (.gs 1 r.length 1) (.sc (nV n)))), (1, .opt (r.map bV))], 2, [], rfl, .of (nameless_ag (nameless_map nameless_bV _)), ⟨⟨_, h0, (.cells (.cons .sc (.cons .sc (.cons .sc (.cons .sc (.cons .sc (.cons .sc (.cons .sc (.cons .sc (.cons (.gsL (show (1 : Nat) < 2 by omega)) (.cons .sc .nil)))))))))))⟩, ⟨_, h1, .opt (.of (nameless_map nameless_bV r))⟩, trivial⟩, rfl, rfl⟩
  refine VCall.go Tryd.func105 rfl ?_
  repeat' (first | with_reducible refine And.intro ?_ ?_ | ((with_reducible intro hc); (try simp only [zA, zB, zC, zD, zE, zF, zG, zH, zI, zJ, zK, zL, zM, zN, zO, zP, zQ, zR, zS, zT, zU, zV, zW] at hc); (first | (exact absurd rfl hc) | (exact absurd trivial hc) | (exfalso; omega) | skip)) | ((conv => whnf); first | with_reducible refine And.intro ?_ ?_ | refine ifB_intro ?_ ?_ | refine xA (by omega) ?_ | ((refine xB ?_); intro kw hk1 hk2) | refine xC (by omega) ?_ | refine xD ?_ | refine xE (by omega) ?_ | refine xF (by omega) ?_ | refine xG ?_ | refine xH ?_ | refine xI (by omega) ?_ | refine xJ (by omega) ?_ | (with_reducible refine stopA ?_) | refine Exists.intro _ (And.intro (by rfl) ?_) | refine GOp.via (by rfl) ?_ | (with_reducible first | refine stopO ?_ | refine stopE ?_ | refine stopD ?_ | refine stopW ?_ | refine stopG ?_ | refine stopC ?_ | refine stopR ?_)))
  have hcl := clone_at (H := ⟨[(3, .cells true (List.replicate 32 (bV 0))), (2, .cells true (List.replicate 32 (bV 0))), (0, .cells true (hV s (.gs 1 r.length 1) (.sc (nV n)))), (1, .opt (r.map bV))], 4⟩) (b := 1) (l := r) (by omega) rfl
  refine GWP'.mk (GWP.drawC mixed 8 14 75 (.gs 4 r.length 1) ⟨[(1, .opt (r.map bV)), (4, .opt (r.map bV)), (3, .cells true (List.replicate 32 (bV 0))), (2, .cells true (List.replicate 32 (bV 0))), (0, .cells true (hV s (.gs 1 r.length 1) (.sc (nV n))))], 5⟩ (by kernel_rfl) (by rfl) ?_)
  repeat' (first | with_reducible refine And.intro ?_ ?_ | ((with_reducible intro hc); (try simp only [zA, zB, zC, zD, zE, zF, zG, zH, zI, zJ, zK, zL, zM, zN, zO, zP, zQ, zR, zS, zT, zU, zV, zW] at hc); (first | (exact absurd rfl hc) | (exact absurd trivial hc) | (exfalso; omega) | skip)) | exact Is.mk rfl rfl | ((conv => whnf); first | with_reducible refine And.intro ?_ ?_ | with_reducible intro hx | exact Is.mk rfl rfl | (with_reducible first | apply Val.via | apply ValH.via) | refine ifB_intro ?_ ?_ | refine xA (by omega) ?_ | ((refine xB ?_); intro kw hk1 hk2) | refine xC (by omega) ?_ | refine xD ?_ | refine xE (by omega) ?_ | refine xF (by omega) ?_ | refine xG ?_ | refine xH ?_ | refine xI (by omega) ?_ | refine xJ (by omega) ?_ | (with_reducible refine stopA ?_) | refine Exists.intro _ (And.intro (by rfl) ?_) | refine GOp.drawn (by rfl) (by rfl) (Nat.le_of_ble_eq_true (by rfl)) (by rfl) | refine GOp.via (by rfl) ?_ | refine GWP.drawY mixed _ (by kernel_rfl) (by rfl) ?_ | (refine GCall.mk ((hcl).mono ?_); rintro _ _ ⟨rfl, rfl⟩) | (with_reducible first | refine stopO ?_ | refine stopE ?_ | refine stopD ?_ | refine stopW ?_ | refine stopG ?_ | refine stopC ?_ | refine stopR ?_)))
  all_goals (first | omega | skip)
  obtain ⟨m, hm⟩ : ∃ m, m = (119 - n % 64) % 64 := ⟨_, rfl⟩
  have hpad : padT n = (128 :: List.replicate m 0) ++ be8 (8 * n) := by unfold padT; rw [hm]
  have hz : vzeros [bV 0] (m * 1) = List.replicate m (bV 0) := by
    obtain ⟨zl, h1, h2, h3⟩ := zeros_u8 m
    have h4 : vzero Tryd.prog 5 = some [bV 0] := rfl
    rw [h4] at h1
    injection h1 with h1
    rw [h1, h3]
  refine GOp'.growSZ rfl sty_b (zl := [bV 0]) (m := m) (fun e he => by have h1 := Tryd.underlying22.symm.trans he; injection h1 with h1; injection h1 with h1; subst h1; rfl) Tryd.underlying114 rfl rfl (by omega) (by rw [hz]; simp [bV, VV.one]) rfl rfl (by omega) (by omega) ?_
  rw [hz]
  repeat' (first | with_reducible refine And.intro ?_ ?_ | ((with_reducible intro hc); (try simp only [zA, zB, zC, zD, zE, zF, zG, zH, zI, zJ, zK, zL, zM, zN, zO, zP, zQ, zR, zS, zT, zU, zV, zW] at hc); (first | (exact absurd rfl hc) | (exact absurd trivial hc) | (exfalso; omega) | skip)) | ((conv => whnf); first | with_reducible refine And.intro ?_ ?_ | refine ifB_intro ?_ ?_ | refine xA (by omega) ?_ | ((refine xB ?_); intro kw hk1 hk2) | refine xC (by omega) ?_ | refine xD ?_ | refine xE (by omega) ?_ | refine xF (by omega) ?_ | refine xG ?_ | refine xH ?_ | refine xI (by omega) ?_ | refine xJ (by omega) ?_ | (with_reducible refine stopA ?_) | refine Exists.intro _ (And.intro (by rfl) ?_) | refine GOp.via (by rfl) ?_ | (with_reducible first | refine stopO ?_ | refine stopE ?_ | refine stopD ?_ | refine stopW ?_ | refine stopG ?_ | refine stopC ?_ | refine stopR ?_)))
  have hent : ([bV 128] ++ List.replicate m (bV 0)) = ((128 :: List.replicate m 0) ++ (be8 (8 * n)).take 0).map bV := by simp
  refine GWP'.keep [(0, .ptr 0 0), (2, .ptr 2 0), (3, .ptr 3 0), (4, .ptr 5 0), (5, .gs 7 (1 + m) 1), (35, iV 0)] 75 [(7, .opt ([bV 128] ++ List.replicate m (bV 0))), (5, .cells true (hV s (.gs 4 r.length 1) (.sc (nV n)))), (4, .opt (r.map bV)), (3, .cells true (List.replicate 32 (bV 0))), (2, .cells true (List.replicate 32 (bV 0))), (0, .cells true (hV s (.gs 1 r.length 1) (.sc (nV n)))), (1, .opt (r.map bV))] 8 rfl ?_ rfl ?_ ?_
  · (repeat' (first | exact trivial | refine And.intro rfl ?_))
  · exact (by repeat' (first | exact trivial | refine And.intro rfl ?_))
  rw [hent]
  conv => whnf
  refine stopW ?_
  (refine GWP'.mk (GWP.loopB [7] (fun (i : Nat) => i ≤ 8) (fun (i : Nat) => [(5, .gs 8 (1 + m + i) 1), (35, iV i)]) (fun (i : Nat) => [(8, .opt (((128 :: List.replicate m 0) ++ (be8 (8 * n)).take i).map bV))]) 9 (fun (i : Nat) => 8 - i) 0 (Nat.zero_le _) ?_); (conv => whnf); refine And.intro ?_ ?_)
  · focus (refine KeptA.of [(7, 8)] rfl rfl (by repeat' (first | exact trivial | refine And.intro rfl ?_)) rfl ?_ ?_; all_goals (repeat' (first | exact trivial | (refine And.intro ?_ ?_) | (refine Exists.intro _ (And.intro rfl ?_)) | (refine RenO.opt ?_) | (refine RenO.toOpt ?_) | (refine RenO.cells ?_) | exact RenO.defs | exact RenL.nil | (refine RenL.cons ?_ ?_) | (first | (first | exact RenL.of (nameless_map nameless_bV _) | exact (RenV.gsE (List.Mem.head _) (by omega) : RenV [(7, 8)] 8 (.gs 7 (1 + m) 1) (.gs 8 (1 + m + 0) 1))) | (with_reducible exact RenV.sc) | exact RenV.gsN | exact RenV.gsZ | exact RenV.gsL (by decide) | exact RenV.slL (by decide) | ((first | refine RenV.gsE (by (first | exact List.Mem.head _ | exact List.Mem.tail _ (List.Mem.head _) | exact List.Mem.tail _ (List.Mem.tail _ (List.Mem.head _)) | (simp; done))) ?_ | refine RenV.eq (scI_eq ?_) (nameless_sc _)); (first | rfl | omega | (simp only [List.length_append, List.length_cons, List.length_nil, List.length_map, List.length_take, List.length_drop] <;> omega) | (simp only <;> omega) | (simp <;> omega))) | exact RenV.undef) | (with_unfolding_all exact (rfl : (_ : VObj) = _)))))
  rintro i hi
  by_cases hi8 : i < 8
  · have hsh : shrZ .u64 (8 * (n : Int)) (56 - 8 * (i : Int)) = ((8 * n / 2 ^ (56 - 8 * i) : Nat) : Int) := by
      have := shr_u64 (a := 8 * n) (k := 56 - 8 * i) (by omega)
      rw [show ((8 * n : Nat) : Int) = 8 * (n : Int) by omega, show ((56 - 8 * i : Nat) : Int) = 56 - 8 * (i : Int) by omega] at this
      exact this
    have hnx : (List.replicate m 0 ++ (be8 (8 * n)).take i).map bV ++ [.sc (.int .u8 (shrZ .u64 (8 * (n : Int)) (56 - 8 * (i : Int)) % 256))] = (List.replicate m 0 ++ (be8 (8 * n)).take (i + 1)).map bV := by
      rw [u8V_of hsh, take_next (be8_at hi8)]
      simp
    have hln : (List.map bV (128 :: List.replicate m 0 ++ List.take i (be8 (8 * n)))).length = 1 + m + i := by
      simp [be8_len]; omega
    have hm64 : m < 64 := by omega
    repeat' (first | with_reducible refine And.intro ?_ ?_ | ((with_reducible intro hc); (try simp only [zA, zB, zC, zD, zE, zF, zG, zH, zI, zJ, zK, zL, zM, zN, zO, zP, zQ, zR, zS, zT, zU, zV, zW] at hc); (first | (exact absurd rfl hc) | (exact absurd trivial hc) | (exfalso; omega) | skip)) | exact Is.mk rfl rfl | ((conv => whnf); first | with_reducible refine And.intro ?_ ?_ | with_reducible intro hx | exact Is.mk rfl rfl | (with_reducible first | apply Val.via | apply ValH.via) | refine ifB_intro ?_ ?_ | refine xA (by omega) ?_ | ((refine xB ?_); intro kw hk1 hk2) | refine xC (by omega) ?_ | refine xD ?_ | refine xE (by omega) ?_ | refine xF (by omega) ?_ | refine xG ?_ | refine xH ?_ | refine xI (by omega) ?_ | refine xJ (by omega) ?_ | (with_reducible refine stopA ?_) | refine Exists.intro _ (And.intro (by rfl) ?_) | refine GOp.drawn (by rfl) (by rfl) (Nat.le_of_ble_eq_true (by rfl)) (by rfl) | refine GOp.via (by rfl) ?_ | refine GWP.drawY mixed _ (by kernel_rfl) (by rfl) ?_ | (refine stopO (GOp'.grow rfl sty_b (d := .slice 5) Tryd.underlying22 (by intro k h; cases h) rfl (m := 1) (l := [.sc (.int .u8 (shrZ .u64 (8 * (n : Int)) (56 - 8 * (i : Int)) % 256))]) (by rfl) (by rfl) rfl (by rw [hln]; omega) (by omega) (by omega) ?_)) | (with_reducible first | refine stopO ?_ | refine stopE ?_ | refine stopD ?_ | refine stopW ?_ | refine stopG ?_ | refine stopC ?_ | refine stopR ?_)))
    all_goals (first | omega | skip)
    focus (refine Done'.mk ⟨(i + 1), (by omega), ?_, KeptA.of [(10, 8)] rfl rfl (by repeat' (first | exact trivial | refine And.intro rfl ?_)) rfl ?_ ?_⟩; (first | omega | (simp only; omega)); all_goals (repeat' (first | exact trivial | (refine And.intro ?_ ?_) | (refine Exists.intro _ (And.intro rfl ?_)) | (refine RenO.opt ?_) | (refine RenO.toOpt ?_) | (refine RenO.cells ?_) | exact RenO.defs | exact RenL.nil | (refine RenL.cons ?_ ?_) | (first | (first | exact RenL.eq hnx (nameless_map nameless_bV _) | exact RenV.gsE (List.Mem.head _) (by omega)) | (with_reducible exact RenV.sc) | exact RenV.gsN | exact RenV.gsZ | exact RenV.gsL (by decide) | exact RenV.slL (by decide) | ((first | refine RenV.gsE (by (first | exact List.Mem.head _ | exact List.Mem.tail _ (List.Mem.head _) | exact List.Mem.tail _ (List.Mem.tail _ (List.Mem.head _)) | (simp; done))) ?_ | refine RenV.eq (scI_eq ?_) (nameless_sc _)); (first | rfl | omega | (simp only [List.length_append, List.length_cons, List.length_nil, List.length_map, List.length_take, List.length_drop] <;> omega) | (simp only <;> omega) | (simp <;> omega))) | exact RenV.undef) | (with_unfolding_all exact (rfl : (_ : VObj) = _)))))
  · obtain rfl : i = 8 := by omega
    have hpl : (padT n).length = 1 + m + 8 := by rw [hpad]; simp [be8_len]; omega
    have hpe : 128 :: List.replicate m 0 ++ (be8 (8 * n)).take 8 = padT n := by rw [hpad, List.take_of_length_le (by rw [be8_len]; exact Nat.le_refl _)]
    rw [hpe]
    clear hpe hent hz hcl hpad
    have hbl := addG_call s hs r (padT n) n (by omega) (by omega) (by omega)
    have hBok := blkF_ok hs (r ++ padT n)
    generalize blkF s (r ++ padT n) = B at *
    have hadd : VCall Tryd.prog 104 [.ptr 5 0, .gs 8 (1 + m + 8) 1] ⟨[(8, .opt ((padT n).map bV)), (5, .cells true (hV s (.gs 4 r.length 1) (.sc (nV n)))), (4, .opt (r.map bV)), (3, .cells true (List.replicate 32 (bV 0))), (2, .cells true (List.replicate 32 (bV 0))), (0, .cells true (hV s (.gs 1 r.length 1) (.sc (nV n)))), (1, .opt (r.map bV))], 9⟩ (fun v K => v = .tp [] ∧ K = ⟨[(5, .cells true (hV B.1 .junk (.sc (nV (n + (padT n).length))))), (3, .cells true (List.replicate 32 (bV 0))), (2, .cells true (List.replicate 32 (bV 0))), (0, .cells true (hV s (.gs 1 r.length 1) (.sc (nV n)))), (1, .opt (r.map bV))], 10⟩) := by
      refine VCall.at (n1 := 3) (O1 := [(0, .cells true (hV s (.gs 1 r.length 1) (.sc (nV n)))), (1, .opt (r.map bV)), (2, .opt ((padT n).map bV))]) [5, 4, 8] [(5, 0), (4, 1), (8, 2)] rfl ⟨⟨_, rfl, (.cells (.cons .sc (.cons .sc (.cons .sc (.cons .sc (.cons .sc (.cons .sc (.cons .sc (.cons .sc (.cons (.gs (List.Mem.tail _ (List.Mem.head _))) (.cons .sc .nil)))))))))))⟩, ⟨_, rfl, .opt (.of (nameless_map nameless_bV r))⟩, ⟨_, rfl, .opt (.of (nameless_map nameless_bV _))⟩, trivial⟩ (.cons (.ptr (List.Mem.head _)) (.cons (.gsE (List.Mem.tail _ (List.Mem.tail _ (List.Mem.head _))) hpl.symm) .nil)) hbl ?_
      rintro v K ⟨rfl, rfl⟩
      exact ⟨.tp [], [(5, .cells true (hV B.1 .junk (.sc (nV (n + (padT n).length)))))], ⟨rfl, .undef, ⟨⟨_, rfl, (.cells (.cons .sc (.cons .sc (.cons .sc (.cons .sc (.cons .sc (.cons .sc (.cons .sc (.cons .sc (.cons .junk (.cons .sc .nil)))))))))))⟩, trivial⟩⟩, rfl, rfl, rfl⟩
    repeat' (first | with_reducible refine And.intro ?_ ?_ | ((with_reducible intro hc); (try simp only [zA, zB, zC, zD, zE, zF, zG, zH, zI, zJ, zK, zL, zM, zN, zO, zP, zQ, zR, zS, zT, zU, zV, zW] at hc); (first | (exact absurd rfl hc) | (exact absurd trivial hc) | (exfalso; omega) | skip)) | exact Is.mk rfl rfl | ((conv => whnf); first | with_reducible refine And.intro ?_ ?_ | with_reducible intro hx | exact Is.mk rfl rfl | (with_reducible first | apply Val.via | apply ValH.via) | refine ifB_intro ?_ ?_ | refine xA (by omega) ?_ | ((refine xB ?_); intro kw hk1 hk2) | refine xC (by omega) ?_ | refine xD ?_ | refine xE (by omega) ?_ | refine xF (by omega) ?_ | refine xG ?_ | refine xH ?_ | refine xI (by omega) ?_ | refine xJ (by omega) ?_ | (with_reducible refine stopA ?_) | refine Exists.intro _ (And.intro (by rfl) ?_) | refine GOp.drawn (by rfl) (by rfl) (Nat.le_of_ble_eq_true (by rfl)) (by rfl) | refine GOp.via (by rfl) ?_ | refine GWP.drawY mixed _ (by kernel_rfl) (by rfl) ?_ | (refine GCall.mk ((hadd).mono ?_); rintro _ _ ⟨rfl, rfl⟩) | (with_reducible first | refine stopO ?_ | refine stopE ?_ | refine stopD ?_ | refine stopW ?_ | refine stopG ?_ | refine stopC ?_ | refine stopR ?_)))
    all_goals (first | omega | skip)
    clear hadd hbl
    generalize hcs : hV B.1 .junk (.sc (nV (n + (padT n).length))) = cs
    refine GWP'.keep [(2, .ptr 2 0), (3, .ptr 3 0), (4, .ptr 5 0), (55, iV 0)] 75 [(5, .cells true cs), (3, .cells true (List.replicate 32 (bV 0))), (2, .cells true (List.replicate 32 (bV 0))), (0, .cells true (hV s (.gs 1 r.length 1) (.sc (nV n)))), (1, .opt (r.map bV))] 10 rfl ?_ rfl ?_ ?_
    · (repeat' (first | exact trivial | refine And.intro rfl ?_))
    · exact (by repeat' (first | exact trivial | refine And.intro rfl ?_))
    generalize B.1 = st at *
    conv => whnf
    refine stopW ?_
    (refine GWP'.mk (GWP.loopB [3] (fun (i : Nat) => i ≤ 32) (fun (i : Nat) => [(55, iV i)]) (fun (i : Nat) => [(3, .cells true ((st.bytes.take i).map bV ++ List.replicate (32 - i) (bV 0)))]) 10 (fun (i : Nat) => 32 - i) 0 (Nat.zero_le _) ?_); (conv => whnf); refine And.intro ?_ ?_)
    · focus (refine KeptA.of [] rfl rfl (by repeat' (first | exact trivial | refine And.intro rfl ?_)) rfl ?_ ?_; all_goals (repeat' (first | exact trivial | (refine And.intro ?_ ?_) | (refine Exists.intro _ (And.intro rfl ?_)) | (refine RenO.opt ?_) | (refine RenO.toOpt ?_) | (refine RenO.cells ?_) | exact RenO.defs | exact RenL.nil | (refine RenL.cons ?_ ?_) | (first | exact RenL.of (by intro v hv; rw [(List.mem_replicate.1 hv).2]; exact nameless_bV 0) | (with_reducible exact RenV.sc) | exact RenV.gsN | exact RenV.gsZ | exact RenV.gsL (by decide) | exact RenV.slL (by decide) | ((first | refine RenV.gsE (by (first | exact List.Mem.head _ | exact List.Mem.tail _ (List.Mem.head _) | exact List.Mem.tail _ (List.Mem.tail _ (List.Mem.head _)) | (simp; done))) ?_ | refine RenV.eq (scI_eq ?_) (nameless_sc _)); (first | rfl | omega | (simp only [List.length_append, List.length_cons, List.length_nil, List.length_map, List.length_take, List.length_drop] <;> omega) | (simp only <;> omega) | (simp <;> omega))) | exact RenV.undef) | (with_unfolding_all exact (rfl : (_ : VObj) = _)))))
    rintro i hi
    by_cases hi32 : i < 32
    · have hba := bytes_at st hi32
      have hwl : cs[i / 4]? = some (wV (st.list.getD (i / 4) 0)) := by
        rw [← hcs]
        have : i / 4 = 0 ∨ i / 4 = 1 ∨ i / 4 = 2 ∨ i / 4 = 3 ∨ i / 4 = 4 ∨ i / 4 = 5 ∨ i / 4 = 6 ∨ i / 4 = 7 := by omega
        rcases this with e | e | e | e | e | e | e | e <;> rw [e] <;> rfl
      have hsh : ∀ kr : Nat, (kr : Int) = (i : Int) % 4 → shrZ .u32 ((st.list.getD (i / 4) 0 : Nat) : Int) (24 - 8 * (kr : Int)) = ((st.list.getD (i / 4) 0 / 2 ^ (24 - 8 * (i % 4)) : Nat) : Int) := fun kr hkr => by
        have := shr_u32 (a := st.list.getD (i / 4) 0) (k := 24 - 8 * (i % 4)) (by omega)
        rw [show ((24 - 8 * (i % 4) : Nat) : Int) = 24 - 8 * (kr : Int) by omega] at this
        exact this
      have hst : ∀ kr : Nat, (kr : Int) = (i : Int) % 4 → ((st.bytes.take i).map bV ++ List.replicate (32 - i) (bV 0)).set i (.sc (.int .u8 (shrZ .u32 ((st.list.getD (i / 4) 0 : Nat) : Int) (24 - 8 * (kr : Int)) % 256))) = (st.bytes.take (i + 1)).map bV ++ List.replicate (32 - (i + 1)) (bV 0) := fun kr hkr => by
        have hl : ((st.bytes.take i).map bV).length = i := by rw [List.length_map, List.length_take, show st.bytes.length = 32 by unfold S8.bytes w4; simp]; omega
        rw [List.set_append_right _ _ (by omega), hl, Nat.sub_self, u8V_of (hsh kr hkr), take_next hba]
        obtain ⟨k, hk⟩ : ∃ k, 32 - i = k + 1 := ⟨31 - i, by omega⟩
        rw [hk, List.replicate_succ, List.set_cons_zero, show 32 - (i + 1) = k by omega]
        simp
      have hlen : i < ((st.bytes.take i).map bV ++ List.replicate (32 - i) (bV 0)).length := by
        rw [List.length_append, List.length_map, List.length_take, List.length_replicate, show st.bytes.length = 32 by unfold S8.bytes w4; simp]; omega
      have hnl : ∀ v ∈ (st.bytes.take (i + 1)).map bV ++ List.replicate (32 - (i + 1)) (bV 0), Nameless v := by
        intro v hv
        rcases List.mem_append.1 hv with hv | hv
        · exact nameless_map nameless_bV _ v hv
        · rw [(List.mem_replicate.1 hv).2]; exact nameless_bV 0
      generalize st.list.getD (i / 4) 0 = wd at *
      clear hcs
      generalize (st.bytes.take i).map bV ++ List.replicate (32 - i) (bV 0) = row at *
      repeat' (first | (with_reducible refine And.intro ?_ ?_) | ((with_reducible intro hc); (try simp only [zA, zB, zC, zD, zE, zF, zG, zH, zI, zJ, zK, zL, zM, zN, zO, zP, zQ, zR, zS, zT, zU, zV, zW] at hc); (first | (exact absurd rfl hc) | (exact absurd trivial hc) | (exfalso; omega) | skip)) | ((conv => whnf); first | (with_reducible refine And.intro ?_ ?_) | (refine ifB_intro (fun hc => ?_) (fun hc => ?_) <;> (try simp only [zA, zB, zC, zD, zE, zF, zG, zH, zI, zJ, zK, zL, zM, zN, zO, zP, zQ, zR, zS, zT, zU, zV, zW] at hc) <;> (first | (exact absurd rfl hc) | (exact absurd trivial hc) | (exfalso; omega) | skip)) | (refine GQuo.nat (by omega) (fun kq hkq => ?_)) | (refine GRem.nat (by omega) (fun kr hkr => ?_)) | refine xA (by omega) ?_ | ((refine xB ?_); intro kw hk1 hk2) | refine xC (by omega) ?_ | refine xD ?_ | refine xE (by omega) ?_ | refine xF (by omega) ?_ | refine xG ?_ | refine xH ?_ | refine xI (by omega) ?_ | refine xJ (by omega) ?_ | (with_reducible refine stopA ?_) | (refine Exists.intro _ (And.intro (by exact vat_of vagg_w hwl (addfld rfl rfl (by omega))) ?_)) | (refine GOp.via (by rfl) ?_) | (with_reducible refine stopO ?_) | (with_reducible refine stopE ?_) | (with_reducible refine stopD ?_) | (with_reducible refine stopW ?_) | (with_reducible refine stopG ?_) | (with_reducible refine stopC ?_) | (with_reducible refine stopR ?_)))
      all_goals (first | omega | skip)
      apply GOp'.via
      case h => exact vop_store rfl (vstore_i8 (vs := row) (i := i) rfl (addfld rfl rfl (by omega)) hlen)
      repeat' (first | with_reducible refine And.intro ?_ ?_ | ((with_reducible intro hc); (try simp only [zA, zB, zC, zD, zE, zF, zG, zH, zI, zJ, zK, zL, zM, zN, zO, zP, zQ, zR, zS, zT, zU, zV, zW] at hc); (first | (exact absurd rfl hc) | (exact absurd trivial hc) | (exfalso; omega) | skip)) | ((conv => whnf); first | with_reducible refine And.intro ?_ ?_ | refine ifB_intro ?_ ?_ | refine xA (by omega) ?_ | ((refine xB ?_); intro kw hk1 hk2) | refine xC (by omega) ?_ | refine xD ?_ | refine xE (by omega) ?_ | refine xF (by omega) ?_ | refine xG ?_ | refine xH ?_ | refine xI (by omega) ?_ | refine xJ (by omega) ?_ | (with_reducible refine stopA ?_) | refine Exists.intro _ (And.intro (by rfl) ?_) | refine GOp.via (by rfl) ?_ | (with_reducible first | refine stopO ?_ | refine stopE ?_ | refine stopD ?_ | refine stopW ?_ | refine stopG ?_ | refine stopC ?_ | refine stopR ?_)))
      all_goals (first | omega | skip)
      focus (refine Done'.mk ⟨(i + 1), (by omega), ?_, KeptA.of [] rfl rfl (by repeat' (first | exact trivial | refine And.intro rfl ?_)) rfl ?_ ?_⟩; (first | omega | (simp only; omega)); all_goals (repeat' (first | exact trivial | (refine And.intro ?_ ?_) | (refine Exists.intro _ (And.intro rfl ?_)) | (refine RenO.opt ?_) | (refine RenO.toOpt ?_) | (refine RenO.cells ?_) | exact RenO.defs | exact RenL.nil | (refine RenL.cons ?_ ?_) | (first | (exact RenL.eq (hst kr hkr) hnl) | (with_reducible exact RenV.sc) | exact RenV.gsN | exact RenV.gsZ | exact RenV.gsL (by decide) | exact RenV.slL (by decide) | ((first | refine RenV.gsE (by (first | exact List.Mem.head _ | exact List.Mem.tail _ (List.Mem.head _) | exact List.Mem.tail _ (List.Mem.tail _ (List.Mem.head _)) | (simp; done))) ?_ | refine RenV.eq (scI_eq ?_) (nameless_sc _)); (first | rfl | omega | (simp only [List.length_append, List.length_cons, List.length_nil, List.length_map, List.length_take, List.length_drop] <;> omega) | (simp only <;> omega) | (simp <;> omega))) | exact RenV.undef) | (with_unfolding_all exact (rfl : (_ : VObj) = _)))))
    · obtain rfl : i = 32 := by omega
      have heq : (st.bytes.take 32).map bV ++ List.replicate (32 - 32) (bV 0) = st.bytes.map bV := by
        have h32 : st.bytes.length = 32 := by unfold S8.bytes w4; simp
        rw [List.take_of_length_le (by omega)]
        simp
      rw [heq]
      clear hcs heq
      have hbl : (st.bytes.map bV).length = 32 := by unfold S8.bytes w4; simp
      have hb1 := one_map st.bytes
      generalize st.bytes.map bV = bs at *
      repeat' (first | with_reducible refine And.intro ?_ ?_ | ((with_reducible intro hc); (try simp only [zA, zB, zC, zD, zE, zF, zG, zH, zI, zJ, zK, zL, zM, zN, zO, zP, zQ, zR, zS, zT, zU, zV, zW] at hc); (first | (exact absurd rfl hc) | (exact absurd trivial hc) | (exfalso; omega) | skip)) | ((conv => whnf); first | with_reducible refine And.intro ?_ ?_ | refine ifB_intro ?_ ?_ | refine xA (by omega) ?_ | ((refine xB ?_); intro kw hk1 hk2) | refine xC (by omega) ?_ | refine xD ?_ | refine xE (by omega) ?_ | refine xF (by omega) ?_ | refine xG ?_ | refine xH ?_ | refine xI (by omega) ?_ | refine xJ (by omega) ?_ | (with_reducible refine stopA ?_) | refine Exists.intro _ (And.intro (by (exact vat_arr hbl rfl)) ?_) | (refine GOp.stA (vs := bs) (by rfl) (by rfl) (by rfl) (by rfl) (by rfl) hbl hb1 ?_) | refine GOp.via (by rfl) ?_ | (with_reducible first | refine stopO ?_ | refine stopE ?_ | refine stopD ?_ | refine stopW ?_ | refine stopG ?_) | fail | (with_reducible refine stopC ?_) | (with_reducible refine stopR ?_)))
      all_goals (first | omega | skip)
      conv => whnf
      split
      · rename_i v hv
        have e := hv.symm.trans (vresAll_arr (a := 2) (b := 2) (vs := bs) rfl rfl rfl hbl)
        injection e with e
        subst e
        exact stopD (Done'.mk ⟨rfl, rfl, rfl⟩)
      · rename_i hv
        have e := hv.symm.trans (vresAll_arr (a := 2) (b := 2) (vs := bs) rfl rfl rfl hbl)
        cases e
end Go.Proofs.YtmmjgbdihgdekaaDoor

/- The sum of bytes, walked. -/
namespace Go.Proofs.YtmmjgbdihgdekaaDoor
open Go Go.RowKit
set_option linter.unusedSimpArgs false
set_option linter.unusedVariables false
set_option maxRecDepth 100000
set_option maxHeartbeats 4000000
theorem sum_call (l : List UInt8) (hl : l.length ≤ 1000000) (H : Heap) : VCall Tryd.prog 57 [roB l] H (fun v K => v = .ag ((sha l).map bV) ∧ K = H) := by
  refine VCall.pure (by simp [nameless_roB]) (nameless_ag (nameless_map nameless_bV _)) ?_
  have hadd0 := add_call h0T h0T_ok [] l 0 (by omega) (by simp; omega)
  have hB : blkF h0T ([] ++ l) = stF l := rfl
  rw [hB] at hadd0
  have hsum0 := sumM_call (stF l).1 (stF_ok l) (stF l).2 (0 + l.length) (by rw [stF_len]; omega) (by omega)
  have hsha : (blkF (stF l).1 ((stF l).2 ++ padT (0 + l.length))).1.bytes = sha l := by
    rw [stF_app, Nat.zero_add, sha_eq]
  rw [hsha] at hsum0
  have hbl : ((sha l).map bV).length = 32 := by rw [List.length_map, sha_len]
  have hb1 := one_map (sha l)
  have hbn := nameless_map nameless_bV (sha l)
  have h0 : (List.replicate 32 (bV 0)).length = 32 := rfl
  generalize (sha l).map bV = bs at *
  generalize stF l = S at *
  have hadd : VCall Tryd.prog 104 [.ptr 1 0, roB l] ⟨[(1, .cells true (hV h0T (.sc (.slice none 0 0)) (.sc (nV 0)))), (0, .cells true (List.replicate 32 (bV 0)))], 2⟩ (fun v K => v = .tp [] ∧ K = ⟨[(1, .cells true (hV S.1 (.gs 2 S.2.length 1) (.sc (nV (0 + l.length))))), (2, .opt (S.2.map bV)), (0, .cells true (List.replicate 32 (bV 0)))], 3⟩) := by
    refine VCall.at (n1 := 2) (O1 := [(0, .cells true (hV h0T (.gs 1 0 1) (.sc (nV 0)))), (1, .opt [])]) [1] [(1, 0)] rfl ⟨⟨_, rfl, (.cells (.cons .sc (.cons .sc (.cons .sc (.cons .sc (.cons .sc (.cons .sc (.cons .sc (.cons .sc (.cons (.gsN) (.cons .sc .nil)))))))))))⟩, rfl, trivial⟩ (.cons (.ptr (List.Mem.head _)) (.cons (.of (nameless_roB l)) .nil)) hadd0 ?_
    rintro v K ⟨rfl, rfl⟩
    exact ⟨.tp [], [(1, .cells true (hV S.1 (.gs 2 S.2.length 1) (.sc (nV (0 + l.length))))), (2, .opt (S.2.map bV))], ⟨rfl, .undef, ⟨⟨_, rfl, (.cells (.cons .sc (.cons .sc (.cons .sc (.cons .sc (.cons .sc (.cons .sc (.cons .sc (.cons .sc (.cons (.gs (List.Mem.head _)) (.cons .sc .nil)))))))))))⟩, ⟨_, rfl, .opt (.of (nameless_map nameless_bV _))⟩, trivial⟩⟩, rfl, rfl, rfl⟩
  have hsum : VCall Tryd.prog 105 [.ptr 1 0] ⟨[(1, .cells true (hV S.1 (.gs 2 S.2.length 1) (.sc (nV (0 + l.length))))), (2, .opt (S.2.map bV)), (0, .cells true (List.replicate 32 (bV 0)))], 3⟩ (fun v K => v = .ag bs ∧ K = ⟨[(0, .cells true (List.replicate 32 (bV 0)))], 3⟩) := by
    refine VCall.at (n1 := 2) (O1 := [(0, .cells true (hV S.1 (.gs 1 S.2.length 1) (.sc (nV (0 + l.length))))), (1, .opt (S.2.map bV))]) [1, 2] [(1, 0), (2, 1)] rfl ⟨⟨_, rfl, (.cells (.cons .sc (.cons .sc (.cons .sc (.cons .sc (.cons .sc (.cons .sc (.cons .sc (.cons .sc (.cons (.gs (List.Mem.tail _ (List.Mem.head _))) (.cons .sc .nil)))))))))))⟩, ⟨_, rfl, .opt (.of (nameless_map nameless_bV _))⟩, trivial⟩ (.cons (.ptr (List.Mem.head _)) .nil) hsum0 ?_
    rintro v K ⟨rfl, rfl⟩
    exact ⟨.ag bs, [], ⟨rfl, .of (nameless_ag hbn), trivial⟩, rfl, rfl, rfl⟩
  refine VCall.go Tryd.func57 rfl ?_
  repeat' (first | with_reducible refine And.intro ?_ ?_ | ((with_reducible intro hc); (try simp only [zA, zB, zC, zD, zE, zF, zG, zH, zI, zJ, zK, zL, zM, zN, zO, zP, zQ, zR, zS, zT, zU, zV, zW] at hc); (first | (exact absurd rfl hc) | (exact absurd trivial hc) | (exfalso; omega) | skip)) | ((conv => whnf); first | with_reducible refine And.intro ?_ ?_ | refine ifB_intro ?_ ?_ | refine xA (by omega) ?_ | ((refine xB ?_); intro kw hk1 hk2) | refine xC (by omega) ?_ | refine xD ?_ | refine xE (by omega) ?_ | refine xF (by omega) ?_ | refine xG ?_ | refine xH ?_ | refine xI (by omega) ?_ | refine xJ (by omega) ?_ | (with_reducible refine stopA ?_) | refine Exists.intro _ (And.intro (by rfl) ?_) | (refine GOp.stA (vs := bs) (by rfl) (by rfl) (by rfl) (by rfl) h0 hbl hb1 ?_) | refine GOp.via (by rfl) ?_ | (with_reducible first | refine stopO ?_ | refine stopE ?_ | refine stopD ?_ | refine stopW ?_ | refine stopG ?_) | (first | (refine GCall.mk (VCall.inl Tryd.func103 rfl ?_)) | (refine GCall.mk ((hadd).mono ?_); rintro _ _ ⟨rfl, rfl⟩) | (refine GCall.mk ((hsum).mono ?_); rintro _ _ ⟨rfl, rfl⟩)) | (with_reducible refine stopC ?_) | (with_reducible refine stopR ?_)))
  all_goals (first | omega | skip)
  conv => whnf
  split
  · rename_i v hv
    have e := hv.symm.trans (vresAll_arr (a := 2) (b := 0) (vs := bs) rfl rfl rfl hbl)
    injection e with e
    subst e
    exact stopD (Done'.mk rfl)
  · rename_i hv
    have e := hv.symm.trans (vresAll_arr (a := 2) (b := 0) (vs := bs) rfl rfl rfl hbl)
    cases e
end Go.Proofs.YtmmjgbdihgdekaaDoor

/- What the laws need of the sum. -/
namespace Go.Proofs.YtmmjgbdihgdekaaDoor
open Go Go.RowKit
set_option linter.unusedSimpArgs false
set_option linter.unusedVariables false
set_option maxRecDepth 100000
set_option maxHeartbeats 4000000
theorem plainL_bytes : ∀ (a : List UInt8), plainL (a.map bV) = some (a.map Extern.Stop.cell)
  | [] => rfl
  | x :: r => by
    simp only [List.map_cons, plainL, bV, plainL_bytes r]
    rfl
theorem GOp'.eq32 {o : Oper} {ts : List VV} {H : Heap} {K : VV → Heap → Prop} {op : BinOp} {x y : Operand} {p : TypeId} {a b : List UInt8} (ho : o.op = .binOp op 34 x y p) (hop : op = .eql ∨ op = .neq) (hx : veval ts x = .ag (a.map bV)) (hy : veval ts y = .ag (b.map bV)) (ha : a.length = 32) (hb : b.length = 32)
    (k : K (.sc (.bool (if op = .eql then (a == b) else !(a == b)))) H) : GOp' Tryd.prog o ts H K :=
  GOp'.eqAg ho hop hx hy (plainL_bytes a) (plainL_bytes b) (by kernel_rfl) (fun w => run_equalIn_bytes w 9998 34 5 32 Tryd.underlying34 Tryd.underlying5 (fun w => run_sizeOf (by kernel_rfl) w) a b ha hb) k
end Go.Proofs.YtmmjgbdihgdekaaDoor

