import Derived.Test.YthjfobafdclafaaDoorG5
import Derived.Test.YthjfobafdclafaaDoorG2
/- Parse of a named text, walked. -/
namespace Go.Proofs.YthjfobafdclafaaDoor
open Go Go.RowKit
set_option linter.unusedSimpArgs false
set_option linter.unusedVariables false
set_option maxRecDepth 100000
set_option maxHeartbeats 8000000
def chV (l : List SLink) : VV := .ro l.length (rowsL l)
theorem nameless_chV (l : List SLink) : Nameless (chV l) := nameless_ro (rowsL_nameless l)
def rowsC (l : List (List SLink)) : List VV := l.map chV
theorem rowsC_len (l : List (List SLink)) : (rowsC l).length = l.length := List.length_map _
def selV (l : List (List SLink)) : VV := .ag [.ro l.length (rowsC l)]
theorem nameless_selV (l : List (List SLink)) : Nameless (selV l) := nameless_ag (by simp [show Nameless (.ro l.length (rowsC l)) from nameless_ro (nameless_map nameless_chV l)])
def parseV : SelR → VV
  | .err e => .tp [selV [], iV e]
  | .ok l => .tp [selV l, iV 0]
theorem sty_C : SlTy Tryd.prog 24 1 24 := ⟨⟨_, _, _, rfl, rfl, rfl, rfl, rfl, rfl⟩⟩
theorem GOp.drawnR {o : Oper} {ts : List VV} {H : Heap} {i : Nat} {l : List SLink} (ho : o.op = .buildSlice 24 1 #[(0, .tmp i)]) (hx : ts[i]? = some (.ro l.length (rowsL l))) (ha : (ts.set i .junk).all scB = true) :
    GOp Tryd.prog o ts H (fun x K' => Is x (.ro 1 [.ro l.length (rowsL l)]) K' H) := ⟨by
  have hn2 : ∀ v ∈ [VV.ro l.length (rowsL l)], Nameless v := by simp [show Nameless (.ro l.length (rowsL l)) from nameless_chV l]
  have hv : vop Tryd.prog o ts ⟨[], 0⟩ = some (.sl 0 0 1 (some 1) 1, ⟨[(0, .cells true [.ro l.length (rowsL l)])], 1⟩) := by
    have hz : vsize Tryd.prog 42 = some 1 := by kernel_rfl
    have hl : vzero Tryd.prog 42 = some [.sc (.slice none 0 0)] := by kernel_rfl
    have he : veval ts (.tmp i) = .ro l.length (rowsL l) := by simp only [veval, hx, Option.getD_some]
    have h1 : cellsOf (.ro l.length (rowsL l)) = some [.ro l.length (rowsL l)] := rfl
    simp only [vop, ho, vbuildSlice, Tryd.underlying24, hz, hl, List.map_cons, List.map_nil, he, vfill, h1]
    rfl
  have hn : ∀ v ∈ ts, Nameless v := fun v hv => by
    obtain ⟨j, hj, e⟩ := List.mem_iff_getElem.1 hv
    by_cases hji : j = i
    · subst hji
      rw [List.getElem?_eq_getElem hj, e] at hx
      injection hx with hx
      subst hx
      exact nameless_chV l
    · refine scB_nameless (List.all_eq_true.1 ha v ?_)
      refine List.mem_iff_getElem.2 ⟨j, by simpa using hj, ?_⟩
      rw [List.getElem_set_ne (fun h => hji h.symm)]
      exact e
  refine (VOne.frozen (u := .ro 1 [.ro l.length (rowsL l)]) hn hv ?_).mono fun x K' e => ⟨e.1, e.2⟩
  exact Frz.sl (K := ⟨[(0, .cells true [.ro l.length (rowsL l)])], 1⟩) (b := 0) (o := 0) (n := 1) (z := 1) (c := some 1) rfl (by simp) hn2⟩
theorem FrzB.selN {n : Nat} {K : Heap} : FrzB n K (.ag [.sc (.slice none 0 0)]) (selV []) := (Frz.agL (.cons Frz.nil0 .nil)).toB
/-- A reader at any name. -/
theorem VCall.rdAtB {P : Program} {f : FuncId} {args args' : List VV} {t s s' : List UInt8} {d d' e e' b : Nat} {u : VV} {H : Heap} (hu : Nameless u) (ha : RenL [(b, 1), (0, 0)] 0 args args') (h : VCall P f args' ⟨rdO t s d e, 2⟩ (fun v K => v = u ∧ K = ⟨rdO t s' d' e', 2⟩)) (hb : Nat.beq 0 b = false)
    (h1 : H.get b = some (rdC t.length s d e)) (h0 : H.get 0 = some (.cells true (t.map bV))) : VCall P f args H (fun v K => v = u ∧ K = ⟨(b, rdC t.length s' d' e') :: (0, .cells true (t.map bV)) :: restO [b, 0] H.objs, H.next⟩) := by
  have hb0 : Nat.beq b 0 = false := beq_ne fun e => by subst e; cases hb
  refine VCall.live fun hlive => ?_
  have hbl := hlive b _ h1
  have g : ∀ c : Nat, memN c [b, 0] = true → (⟨keepO [b, 0] H.objs, H.next⟩ : Heap).get c = H.get c := fun c hc => keepO_get hc
  have e1 : Nat.beq b b = true := Nat.beq_refl b
  have e2 : Nat.blt b H.next = true := blt_iff.2 hbl
  have e3 : Nat.blt 0 H.next = true := blt_iff.2 (by omega)
  have e7 : ∀ n, Nat.ble 0 n = true := fun n => Nat.ble_eq_true_of_le (Nat.zero_le n)
  have ren : ∀ (R : List (Nat × Nat)) (s : List UInt8) (d e : Nat), (∀ x, (x = 0 → (x, x) ∈ R)) → RenO R 0 (rdC t.length s d e) (rdC t.length s d e) := fun R s d e hR => by
    refine .cells (.cons ?_ (.cons (.of (nameless_sc _)) (.cons (.of (nameless_sc _)) .nil)))
    cases s with
    | nil => exact .of (nameless_ro (by simp))
    | cons c r => exact .sl (hR 0 rfl)
  refine VCall.at (n1 := 2) (O1 := rdO t s d e) [b, 0] [(b, 1), (0, 0)] ?_ ⟨⟨_, (g b (memN_iff.2 (by simp))).trans h1, ren _ _ _ _ (by rintro x rfl; simp)⟩, ⟨_, (g 0 (memN_iff.2 (by simp))).trans h0, .cells (.of (nameless_map nameless_bV t))⟩, trivial⟩ ha h ?_
  · show (wfR 0 2 [(b, 1), (0, 0)] && nodupB [b, 0] && _) = true
    simp only [nodupB, List.all_cons, List.all_nil, hb0]
    rfl
  · rintro v K ⟨rfl, rfl⟩
    have e0 : backR [(b, 1), (0, 0)] 2 H.next (2 - 2) = [(1, b), (0, 0)] := rfl
    have s1 : srcOf [(1, b), (0, 0)] 0 b = some 1 := by simp only [srcOf0, srcN, e1]
    have s2 : srcOf [(1, b), (0, 0)] 0 0 = some 0 := by simp only [srcOf0, srcN, hb0, Nat.beq_refl]
    refine ⟨v, [(b, rdC t.length s' d' e'), (0, .cells true (t.map bV))], ⟨?_, .of hu, ?_⟩, ?_, rfl, rfl⟩
    · show (wfR 0 (H.next + 0) (backR [(b, 1), (0, 0)] 2 H.next (2 - 2)) && nodupB (ksOf (backR [(b, 1), (0, 0)] 2 H.next (2 - 2)) 0 [(b, rdC t.length s' d' e'), (0, .cells true (t.map bV))]) && ([(b, rdC t.length s' d' e'), (0, .cells true (t.map bV))] : List (Nat × VObj)).all (fun p => (srcN (backR [(b, 1), (0, 0)] 2 H.next (2 - 2)) p.1).isSome) && _) = true
      rw [e0]
      simp only [wfR, ksOf, s1, s2, srcN, e1, e2, e3, e7, hb, hb0, Nat.beq_refl, Nat.add_zero, List.all_cons, List.all_nil]
      rfl
    · show RenG (backR [(b, 1), (0, 0)] 2 H.next (2 - 2)) 0 ⟨rdO t s' d' e', 2⟩ _
      rw [e0]
      refine ⟨?_, ?_, trivial⟩
      · rw [s1]
        exact ⟨_, rfl, ren _ _ _ _ (by rintro x rfl; simp)⟩
      · rw [s2]
        exact ⟨_, rfl, .cells (.of (nameless_map nameless_bV t))⟩
    · simp only [List.all_cons, List.all_nil, restO_out [b, 0] b (memN_iff.2 (by simp)), restO_out [b, 0] 0 (memN_iff.2 (by simp))]
      rfl
theorem restV_full {t : List UInt8} (h : t ≠ []) : restV t.length t = .sl 0 0 t.length none 1 := by
  cases t with
  | nil => exact absurd rfl h
  | cons c r =>
    show VV.sl 0 ((r.length + 1) - (r.length + 1)) _ none 1 = _
    rw [Nat.sub_self]
    rfl
theorem RenV.full {R : List (Nat × Nat)} {T : Nat} {t : List UInt8} (h : t ≠ []) (hT : 0 < T) : RenV R T (.sl 0 0 t.length none 1) (restV t.length t) := by
  rw [restV_full h]
  exact .slL hT
theorem restV_renL {R : List (Nat × Nat)} {T N : Nat} (h : 0 < T) (s : List UInt8) : RenV R T (restV N s) (restV N s) := by
  cases s with
  | nil => exact RenV.of (nameless_ro (by simp))
  | cons c r => exact RenV.slL h
theorem rowsC_snoc (l : List (List SLink)) (x : List SLink) : rowsC l ++ [.ro x.length (rowsL x)] = rowsC (l ++ [x]) := by
  unfold rowsC
  rw [List.map_append]
  rfl
theorem chain_suf : ∀ (n : Nat) (out : List SLink) (s : List UInt8) (e : Nat), (chainS n out s e).2.1 <:+ s
  | 0, _, s, _ => List.suffix_refl s
  | n + 1, out, s, e => by
    have hb : blS s <:+ s := List.dropWhile_suffix _
    rw [chainS]
    split
    · exact List.suffix_refl s
    · split
      · exact hb
      · split
        · rename_i r hr
          have h1 : r <:+ s := (skip_suf hr).trans hb
          have h2 : blS r <:+ r := List.dropWhile_suffix _
          exact (chain_suf n _ _ _).trans ((comp_suf _ 0 _).trans (h2.trans h1))
        · split
          · exact hb
          · exact (chain_suf n _ _ _).trans ((comp_suf _ 0 _).trans hb)
theorem firstS_suf (n : Nat) (s : List UInt8) : (firstS n s).2.1 <:+ s := (chain_suf n _ _ _).trans (comp_suf _ 0 _)
theorem frz_sel {n b k : Nat} {K : Heap} {vs : List VV} {acc : List (List SLink)} {l : List SLink} (hg : K.get b = some (.opt vs)) (hv : vs = rowsC acc ++ [.ro l.length (rowsL l)]) (hk : k = acc.length + 1) : FrzB n K (.tp [.ag [.gs b k 1], iV 0]) (parseV (.ok (acc ++ [l]))) := by
  subst hk
  rw [hv, rowsC_snoc] at hg
  have h1 : acc.length + 1 = (acc ++ [l]).length := by simp
  rw [h1]
  exact FrzB.tp2 ((Frz.agL (.cons (Frz.gs hg (by rw [rowsC_len]; simp) (nameless_map nameless_chV _)) .nil)).toB) (.of (nameless_sc _))
theorem parse_gen {t : List UInt8} {c : Option Nat} (hc0 : ∀ (R : List (Nat × Nat)) (T : Nat), 0 < T → RenV R T (.sl 0 0 t.length c 1) (restV t.length t)) (ht : t.length ≤ 100000) : VCall Tryd.prog 5 [.sl 0 0 t.length c 1] ⟨[(0, .cells true (t.map bV))], 1⟩ (fun v K => v = (if 4096 < t.length then parseV (.err 3) else parseV (parseS (t.length + 1) [] t)) ∧ K = ⟨[(0, .cells true (t.map bV))], 1⟩) := by
  refine VCall.trimB (Q' := fun v => v = (if 4096 < t.length then parseV (.err 3) else parseV (parseS (t.length + 1) [] t))) ?_ (Q := fun v K => K.get 0 = some (.cells true (t.map bV)) ∧ FrzB 1 ⟨restO [0] K.objs, K.next⟩ v (if 4096 < t.length then parseV (.err 3) else parseV (parseS (t.length + 1) [] t))) ?_ ?_
  · intro b x hx
    rw [hget_cons] at hx
    split at hx
    · injection hx with hx
      exact ⟨_, .inl hx.symm, nameless_map nameless_bV t⟩
    · simp [hget] at hx
  · by_cases hlong : 4096 < t.length
    · rw [if_pos hlong]
      refine VCall.go Tryd.func5 rfl ?_
      repeat' (first|with_reducible refine And.intro ?_ ?_|((with_reducible intro hc);(try simp only [zA,zB,zC,zD,zE,zF,zG,zH,zI,zJ,zK,zL,zM,zN,zO,zP,zQ,zR,zS,zT,zU,zV,zW] at hc);(first|exact absurd rfl hc|exact absurd trivial hc|(exfalso;omega)|skip))|exact Is.mk rfl rfl|((conv => whnf);first|with_reducible refine And.intro ?_ ?_|with_reducible intro hx|exact Is.mk rfl rfl|(with_reducible first|apply Val.via|apply ValH.via)|refine ifB_intro ?_ ?_|refine xA (by omega) ?_|(refine xB ?_;intro kw hk1 hk2)|refine xC (by omega) ?_|refine xD ?_|refine xE (by omega) ?_|refine xF (by omega) ?_|refine xG ?_|refine xH ?_|refine xI (by omega) ?_|refine xJ (by omega) ?_|(with_reducible refine stopA ?_)|refine Exists.intro _ (And.intro (by (first|exact vat_of rfl rfl rfl|rfl)) ?_)|refine GOp.drawn (by rfl) (by rfl) (Nat.le_of_ble_eq_true (by rfl)) (by rfl)|refine GOp.via (by rfl) ?_|refine GWP.drawY mixed _ (by kernel_rfl) (by rfl) ?_|fail|(with_reducible first|refine stopO ?_|refine stopE ?_|refine stopD ?_|refine stopW ?_|refine stopG ?_|refine stopC ?_|refine stopR ?_)))
      (all_goals (first|omega|(rw [List.length_map];done)|(rw [List.length_map];omega)|contradiction|skip))
      exact Done'.mk ⟨rfl, FrzB.tp2 (FrzB.selN) (.of (nameless_sc _))⟩
    · rw [if_neg hlong]
      refine VCall.go Tryd.func5 rfl ?_
      repeat' (first|with_reducible refine And.intro ?_ ?_|((with_reducible intro hc);(try simp only [zA,zB,zC,zD,zE,zF,zG,zH,zI,zJ,zK,zL,zM,zN,zO,zP,zQ,zR,zS,zT,zU,zV,zW] at hc);(first|exact absurd rfl hc|exact absurd trivial hc|(exfalso;omega)|skip))|exact Is.mk rfl rfl|((conv => whnf);first|with_reducible refine And.intro ?_ ?_|with_reducible intro hx|exact Is.mk rfl rfl|(with_reducible first|apply Val.via|apply ValH.via)|refine ifB_intro ?_ ?_|refine xA (by omega) ?_|(refine xB ?_;intro kw hk1 hk2)|refine xC (by omega) ?_|refine xD ?_|refine xE (by omega) ?_|refine xF (by omega) ?_|refine xG ?_|refine xH ?_|refine xI (by omega) ?_|refine xJ (by omega) ?_|(with_reducible refine stopA ?_)|refine Exists.intro _ (And.intro (by (first|exact vat_of rfl rfl rfl|rfl)) ?_)|refine GOp.drawn (by rfl) (by rfl) (Nat.le_of_ble_eq_true (by rfl)) (by rfl)|refine GOp.via (by rfl) ?_|refine GWP.drawY mixed _ (by kernel_rfl) (by rfl) ?_|fail|(with_reducible first|refine stopO ?_|refine stopE ?_|refine stopD ?_|refine stopW ?_|refine stopG ?_|refine stopC ?_|refine stopR ?_)))
      (all_goals (first|omega|(rw [List.length_map];done)|(rw [List.length_map];omega)|contradiction|skip))
      (refine GWP'.mk (GWP.loopB [2, 3] (fun (b : Nat × List (List SLink) × List UInt8) => parseS b.1 b.2.1 b.2.2 = parseS (t.length + 1) [] t ∧ b.2.2 <:+ t ∧ b.2.2.length < b.1 ∧ b.2.1.length + b.2.2.length ≤ t.length) (fun b => []) (fun b => [(2, rdC t.length b.2.2 0 0), (3, .cells true [.gs 4 b.2.1.length 1]), (4, .opt (rowsC b.2.1))]) 5 (fun b => b.1) (t.length + 1, [], t) ⟨rfl, List.suffix_refl t, by simp only; omega, by simp⟩ ?_); (conv => whnf); refine And.intro ?_ ?_)
      · focus (refine KeptA.of [] rfl rfl (by repeat' (first|exact trivial|refine And.intro rfl ?_)) rfl ?_ ?_;all_goals (repeat' (first|exact trivial|(refine And.intro ?_ ?_)|(refine Exists.intro _ (And.intro rfl ?_))|(refine RenO.opt ?_)|(refine RenO.toOpt ?_)|(refine RenO.cells ?_)|exact RenO.defs|exact RenL.nil|(refine RenL.cons ?_ ?_)|(first|exact hc0 _ _ (Nat.zero_lt_succ _)|(with_reducible exact RenV.sc)|exact RenV.gsN|exact RenV.gsZ|exact RenV.gsL (by decide)|exact RenV.slL (by decide)|((first|refine RenV.gsE (by (first|exact mhA|exact mhB|exact mhC|(simp;done))) ?_|refine RenV.eq (scI_eq ?_) (nameless_sc _));(first|rfl|omega|(simp only [List.length_append,List.length_cons,List.length_nil,List.length_map,List.length_take,List.length_drop] <;> omega)|(simp only <;> omega)|(simp <;> omega)))|exact RenV.undef)|(with_unfolding_all exact (rfl : (_ : VObj) = _)))))
      rintro ⟨m, acc, s⟩ ⟨g1, g2, g3, g4⟩
      simp only at g1 g2 g3 g4
      cases m with
      | zero => omega
      | succ m =>
        have ha : RenL [(2, 1), (0, 0)] 0 [VV.ptr 2 0] [.ptr 1 0] := .cons (RenV.ptr (by simp)) .nil
        have haS : ∀ x, RenL [(2, 1), (0, 0)] 0 [VV.ptr 2 0, strV x] [.ptr 1 0, strV x] := fun x => .cons (RenV.ptr (by simp)) (.cons (RenV.of (nameless_strV x)) .nil)
        have k1 := fun H => VCall.rdAtB (H := H) (b := 2) (nameless_sc _) ha (blanks_call g2 ht 0 0) rfl
        have hbs : blS s <:+ t := (List.dropWhile_suffix _).trans g2
        have hbl : (blS s).length ≤ s.length := (List.dropWhile_suffix _).length_le
        rw [parseS] at g1
        have k2 := chain_call hbs ht (s.length + 2) (by omega)
        have hcs := (firstS_suf (s.length + 2) (blS s)).trans hbs
        have hcl := (firstS_suf (s.length + 2) (blS s)).length_le
        generalize blS s = s0 at *
        generalize firstS (s.length + 2) s0 = c at *
        obtain ⟨l1, s1, e1⟩ := c
        simp only at k2 hcs hcl g1
        have k3 := fun H => VCall.rdAtB (H := H) (b := 2) (nameless_chV l1) ha k2 rfl
        cases e1 with
        | succ e =>
          rw [if_pos (by omega)] at g1
          rw [← g1]
          repeat' (first|with_reducible refine And.intro ?_ ?_|((with_reducible intro hc);(try simp only [zA,zB,zC,zD,zE,zF,zG,zH,zI,zJ,zK,zL,zM,zN,zO,zP,zQ,zR,zS,zT,zU,zV,zW] at hc);(first|exact absurd rfl hc|exact absurd trivial hc|(exfalso;omega)|skip))|exact Is.mk rfl rfl|((conv => whnf);first|with_reducible refine And.intro ?_ ?_|with_reducible intro hx|exact Is.mk rfl rfl|(with_reducible first|apply Val.via|apply ValH.via)|refine ifB_intro ?_ ?_|refine xA (by omega) ?_|(refine xB ?_;intro kw hk1 hk2)|refine xC (by omega) ?_|refine xD ?_|refine xE (by omega) ?_|refine xF (by omega) ?_|refine xG ?_|refine xH ?_|refine xI (by omega) ?_|refine xJ (by omega) ?_|(with_reducible refine stopA ?_)|refine Exists.intro _ (And.intro (by (first|exact vat_of rfl rfl rfl|rfl)) ?_)|refine GOp.drawn (by rfl) (by rfl) (Nat.le_of_ble_eq_true (by rfl)) (by rfl)|refine GOp.via (by rfl) ?_|(refine GCall.mk ((k1 _ rfl rfl).mono ?_);rintro _ _ ⟨rfl,rfl⟩)|(with_reducible first|refine stopO ?_|refine stopE ?_|refine stopD ?_|refine stopW ?_|refine stopG ?_|refine stopC ?_|refine stopR ?_)))
          (all_goals (first|omega|(rw [List.length_map];done)|(rw [List.length_map];omega)|contradiction|skip))
          refine GWP'.mk (GWP.drawG1 mixed 3 5 36 (chV l1) (fun H => ⟨(2, rdC t.length s1 0 (e + 1)) :: (0, .cells true (t.map bV)) :: restO [2, 0] H.objs, H.next⟩) (by kernel_rfl) (by rfl) ?_)
          repeat' (first|with_reducible refine And.intro ?_ ?_|((with_reducible intro hc);(try simp only [zA,zB,zC,zD,zE,zF,zG,zH,zI,zJ,zK,zL,zM,zN,zO,zP,zQ,zR,zS,zT,zU,zV,zW] at hc);(first|exact absurd rfl hc|exact absurd trivial hc|(exfalso;omega)|skip))|exact Is.mk rfl rfl|((conv => whnf);first|with_reducible refine And.intro ?_ ?_|with_reducible intro hx|exact Is.mk rfl rfl|(with_reducible first|apply Val.via|apply ValH.via)|refine ifB_intro ?_ ?_|refine xA (by omega) ?_|(refine xB ?_;intro kw hk1 hk2)|refine xC (by omega) ?_|refine xD ?_|refine xE (by omega) ?_|refine xF (by omega) ?_|refine xG ?_|refine xH ?_|refine xI (by omega) ?_|refine xJ (by omega) ?_|(with_reducible refine stopA ?_)|refine Exists.intro _ (And.intro (by (first|exact vat_of rfl rfl rfl|rfl)) ?_)|(refine GOp.drawnR (l := l1) rfl rfl rfl)|refine GOp.drawn (by rfl) (by rfl) (Nat.le_of_ble_eq_true (by rfl)) (by rfl)|refine GOp.via (by rfl) ?_|(first|(refine GCall.mk ((k3 _ rfl rfl).mono ?_);rintro _ _ ⟨rfl,rfl⟩)|(refine stopO (GOp'.grow rfl sty_C (d := .slice 42) Tryd.underlying24 (by intro k h;cases h) rfl (m := 1) (l := [(.ro l1.length (rowsL l1))]) (by rfl) (by rfl) rfl (by rw [rowsC_len];omega) (by simp only;omega) (by simp only;omega) ?_)))|(with_reducible first|refine stopO ?_|refine stopE ?_|refine stopD ?_|refine stopW ?_|refine stopG ?_|refine stopC ?_|refine stopR ?_)))
          (all_goals (first|omega|(rw [List.length_map];done)|(rw [List.length_map];omega)|contradiction|skip))
          refine GWP'.mk (GWP.drawG1 mixed 5 6 36 (.tp []) (fun H => H) (by kernel_rfl) (by rfl) ?_)
          repeat' (first|with_reducible refine And.intro ?_ ?_|((with_reducible intro hc);(try simp only [zA,zB,zC,zD,zE,zF,zG,zH,zI,zJ,zK,zL,zM,zN,zO,zP,zQ,zR,zS,zT,zU,zV,zW] at hc);(first|exact absurd rfl hc|exact absurd trivial hc|(exfalso;omega)|skip))|exact Is.mk rfl rfl|((conv => whnf);first|with_reducible refine And.intro ?_ ?_|with_reducible intro hx|exact Is.mk rfl rfl|(with_reducible first|apply Val.via|apply ValH.via)|refine ifB_intro ?_ ?_|refine xA (by omega) ?_|(refine xB ?_;intro kw hk1 hk2)|refine xC (by omega) ?_|refine xD ?_|refine xE (by omega) ?_|refine xF (by omega) ?_|refine xG ?_|refine xH ?_|refine xI (by omega) ?_|refine xJ (by omega) ?_|(with_reducible refine stopA ?_)|refine Exists.intro _ (And.intro (by (first|exact vat_of rfl rfl rfl|rfl)) ?_)|refine GOp.drawn (by rfl) (by rfl) (Nat.le_of_ble_eq_true (by rfl)) (by rfl)|refine GOp.via (by rfl) ?_|refine GWP.drawY mixed _ (by kernel_rfl) (by rfl) ?_|fail|(with_reducible first|refine stopO ?_|refine stopE ?_|refine stopD ?_|refine stopW ?_|refine stopG ?_|refine stopC ?_|refine stopR ?_)))
          (all_goals (first|omega|(rw [List.length_map];done)|(rw [List.length_map];omega)|contradiction|skip))
          exact Done'.mk ⟨rfl, FrzB.tp2 (FrzB.selN) (.of (nameless_sc _))⟩
        | zero =>
          rw [if_neg (by omega)] at g1
          have k4 := fun H => VCall.rdAtB (H := H) (b := 2) (nameless_sc _) (haS _) (skip_call [44] hcs ht (by simp) 0 0) rfl
          cases h4 : skipS [44] s1 with
          | none =>
            rw [h4] at g1 k4
            simp only [Option.isSome_none, Option.getD_none] at g1 k4
            rw [← g1]
            repeat' (first|with_reducible refine And.intro ?_ ?_|((with_reducible intro hc);(try simp only [zA,zB,zC,zD,zE,zF,zG,zH,zI,zJ,zK,zL,zM,zN,zO,zP,zQ,zR,zS,zT,zU,zV,zW] at hc);(first|exact absurd rfl hc|exact absurd trivial hc|(exfalso;omega)|skip))|exact Is.mk rfl rfl|((conv => whnf);first|with_reducible refine And.intro ?_ ?_|with_reducible intro hx|exact Is.mk rfl rfl|(with_reducible first|apply Val.via|apply ValH.via)|refine ifB_intro ?_ ?_|refine xA (by omega) ?_|(refine xB ?_;intro kw hk1 hk2)|refine xC (by omega) ?_|refine xD ?_|refine xE (by omega) ?_|refine xF (by omega) ?_|refine xG ?_|refine xH ?_|refine xI (by omega) ?_|refine xJ (by omega) ?_|(with_reducible refine stopA ?_)|refine Exists.intro _ (And.intro (by (first|exact vat_of rfl rfl rfl|rfl)) ?_)|refine GOp.drawn (by rfl) (by rfl) (Nat.le_of_ble_eq_true (by rfl)) (by rfl)|refine GOp.via (by rfl) ?_|(refine GCall.mk ((k1 _ rfl rfl).mono ?_);rintro _ _ ⟨rfl,rfl⟩)|(with_reducible first|refine stopO ?_|refine stopE ?_|refine stopD ?_|refine stopW ?_|refine stopG ?_|refine stopC ?_|refine stopR ?_)))
            (all_goals (first|omega|(rw [List.length_map];done)|(rw [List.length_map];omega)|contradiction|skip))
            refine GWP'.mk (GWP.drawG1 mixed 3 5 36 (chV l1) (fun H => ⟨(2, rdC t.length s1 0 0) :: (0, .cells true (t.map bV)) :: restO [2, 0] H.objs, H.next⟩) (by kernel_rfl) (by rfl) ?_)
            repeat' (first|with_reducible refine And.intro ?_ ?_|((with_reducible intro hc);(try simp only [zA,zB,zC,zD,zE,zF,zG,zH,zI,zJ,zK,zL,zM,zN,zO,zP,zQ,zR,zS,zT,zU,zV,zW] at hc);(first|exact absurd rfl hc|exact absurd trivial hc|(exfalso;omega)|skip))|exact Is.mk rfl rfl|((conv => whnf);first|with_reducible refine And.intro ?_ ?_|with_reducible intro hx|exact Is.mk rfl rfl|(with_reducible first|apply Val.via|apply ValH.via)|refine ifB_intro ?_ ?_|refine xA (by omega) ?_|(refine xB ?_;intro kw hk1 hk2)|refine xC (by omega) ?_|refine xD ?_|refine xE (by omega) ?_|refine xF (by omega) ?_|refine xG ?_|refine xH ?_|refine xI (by omega) ?_|refine xJ (by omega) ?_|(with_reducible refine stopA ?_)|refine Exists.intro _ (And.intro (by (first|exact vat_of rfl rfl rfl|rfl)) ?_)|(refine GOp.drawnR (l := l1) rfl rfl rfl)|refine GOp.drawn (by rfl) (by rfl) (Nat.le_of_ble_eq_true (by rfl)) (by rfl)|refine GOp.via (by rfl) ?_|(first|(refine GCall.mk ((k3 _ rfl rfl).mono ?_);rintro _ _ ⟨rfl,rfl⟩)|(refine GCall.mk ((k4 _ rfl rfl).mono ?_);rintro _ _ ⟨rfl,rfl⟩)|(refine stopO (GOp'.grow rfl sty_C (d := .slice 42) Tryd.underlying24 (by intro k h;cases h) rfl (m := 1) (l := [(.ro l1.length (rowsL l1))]) (by rfl) (by rfl) rfl (by rw [rowsC_len];omega) (by simp only;omega) (by simp only;omega) ?_)))|(with_reducible first|refine stopO ?_|refine stopE ?_|refine stopD ?_|refine stopW ?_|refine stopG ?_|refine stopC ?_|refine stopR ?_)))
            (all_goals (first|omega|(rw [List.length_map];done)|(rw [List.length_map];omega)|contradiction|skip))
            exact Done'.mk ⟨rfl, frz_sel (acc := acc) (l := l1) rfl rfl rfl⟩
          | some r =>
            have h5 := skipS_len h4
            have h6 := skipS_suf h4 hcs
            simp only [List.length_cons, List.length_nil] at h5
            rw [h4] at g1 k4
            simp only [Option.isSome_some, Option.getD_some] at g1 k4
            repeat' (first|with_reducible refine And.intro ?_ ?_|((with_reducible intro hc);(try simp only [zA,zB,zC,zD,zE,zF,zG,zH,zI,zJ,zK,zL,zM,zN,zO,zP,zQ,zR,zS,zT,zU,zV,zW] at hc);(first|exact absurd rfl hc|exact absurd trivial hc|(exfalso;omega)|skip))|exact Is.mk rfl rfl|((conv => whnf);first|with_reducible refine And.intro ?_ ?_|with_reducible intro hx|exact Is.mk rfl rfl|(with_reducible first|apply Val.via|apply ValH.via)|refine ifB_intro ?_ ?_|refine xA (by omega) ?_|(refine xB ?_;intro kw hk1 hk2)|refine xC (by omega) ?_|refine xD ?_|refine xE (by omega) ?_|refine xF (by omega) ?_|refine xG ?_|refine xH ?_|refine xI (by omega) ?_|refine xJ (by omega) ?_|(with_reducible refine stopA ?_)|refine Exists.intro _ (And.intro (by (first|exact vat_of rfl rfl rfl|rfl)) ?_)|refine GOp.drawn (by rfl) (by rfl) (Nat.le_of_ble_eq_true (by rfl)) (by rfl)|refine GOp.via (by rfl) ?_|(refine GCall.mk ((k1 _ rfl rfl).mono ?_);rintro _ _ ⟨rfl,rfl⟩)|(with_reducible first|refine stopO ?_|refine stopE ?_|refine stopD ?_|refine stopW ?_|refine stopG ?_|refine stopC ?_|refine stopR ?_)))
            (all_goals (first|omega|(rw [List.length_map];done)|(rw [List.length_map];omega)|contradiction|skip))
            refine GWP'.mk (GWP.drawG1 mixed 3 5 36 (chV l1) (fun H => ⟨(2, rdC t.length s1 0 0) :: (0, .cells true (t.map bV)) :: restO [2, 0] H.objs, H.next⟩) (by kernel_rfl) (by rfl) ?_)
            repeat' (first|with_reducible refine And.intro ?_ ?_|((with_reducible intro hc);(try simp only [zA,zB,zC,zD,zE,zF,zG,zH,zI,zJ,zK,zL,zM,zN,zO,zP,zQ,zR,zS,zT,zU,zV,zW] at hc);(first|exact absurd rfl hc|exact absurd trivial hc|(exfalso;omega)|skip))|exact Is.mk rfl rfl|((conv => whnf);first|with_reducible refine And.intro ?_ ?_|with_reducible intro hx|exact Is.mk rfl rfl|(with_reducible first|apply Val.via|apply ValH.via)|refine ifB_intro ?_ ?_|refine xA (by omega) ?_|(refine xB ?_;intro kw hk1 hk2)|refine xC (by omega) ?_|refine xD ?_|refine xE (by omega) ?_|refine xF (by omega) ?_|refine xG ?_|refine xH ?_|refine xI (by omega) ?_|refine xJ (by omega) ?_|(with_reducible refine stopA ?_)|refine Exists.intro _ (And.intro (by (first|exact vat_of rfl rfl rfl|rfl)) ?_)|(refine GOp.drawnR (l := l1) rfl rfl rfl)|refine GOp.drawn (by rfl) (by rfl) (Nat.le_of_ble_eq_true (by rfl)) (by rfl)|refine GOp.via (by rfl) ?_|(first|(refine GCall.mk ((k3 _ rfl rfl).mono ?_);rintro _ _ ⟨rfl,rfl⟩)|(refine GCall.mk ((k4 _ rfl rfl).mono ?_);rintro _ _ ⟨rfl,rfl⟩)|(refine stopO (GOp'.grow rfl sty_C (d := .slice 42) Tryd.underlying24 (by intro k h;cases h) rfl (m := 1) (l := [(.ro l1.length (rowsL l1))]) (by rfl) (by rfl) rfl (by rw [rowsC_len];omega) (by simp only;omega) (by simp only;omega) ?_)))|(with_reducible first|refine stopO ?_|refine stopE ?_|refine stopD ?_|refine stopW ?_|refine stopG ?_|refine stopC ?_|refine stopR ?_)))
            (all_goals (first|omega|(rw [List.length_map];done)|(rw [List.length_map];omega)|contradiction|skip))
            focus (refine Done'.mk ⟨(m,acc ++ [l1],r),⟨g1,h6,by simp only;omega,by simp only [List.length_append,List.length_cons,List.length_nil];omega⟩,?_,KeptA.of [(5,4)] rfl rfl (by repeat' (first|exact trivial|refine And.intro rfl ?_)) rfl ?_ ?_⟩;(first|omega|(simp only;omega));all_goals (repeat' (first|exact trivial|(refine And.intro ?_ ?_)|(refine Exists.intro _ (And.intro rfl ?_))|(refine RenO.opt ?_)|(refine RenO.toOpt ?_)|(refine RenO.cells ?_)|exact RenO.defs|exact RenL.nil|(refine RenL.cons ?_ ?_)|(first|(first|exact restV_renL (Nat.zero_lt_succ _) _|exact RenL.eq (rowsC_snoc acc l1) (nameless_map nameless_chV _))|(with_reducible exact RenV.sc)|exact RenV.gsN|exact RenV.gsZ|exact RenV.gsL (by decide)|exact RenV.slL (by decide)|((first|refine RenV.gsE (by (first|exact mhA|exact mhB|exact mhC|(simp;done))) ?_|refine RenV.eq (scI_eq ?_) (nameless_sc _));(first|rfl|omega|(simp only [List.length_append,List.length_cons,List.length_nil,List.length_map,List.length_take,List.length_drop] <;> omega)|(simp only <;> omega)|(simp <;> omega)))|exact RenV.undef)|(with_unfolding_all exact (rfl : (_ : VObj) = _)))))
  · rintro v K ⟨h1, h2⟩
    refine ⟨fun b x hx => ?_, _, rfl, h2⟩
    rw [hget_cons] at hx
    split at hx
    · rename_i e
      subst e
      injection hx with hx
      rw [← hx]
      exact h1
    · simp [hget] at hx
theorem parse_call {t : List UInt8} (h0 : t ≠ []) (ht : t.length ≤ 100000) : VCall Tryd.prog 5 [.sl 0 0 t.length none 1] ⟨[(0, .cells true (t.map bV))], 1⟩ (fun v K => v = (if 4096 < t.length then parseV (.err 3) else parseV (parseS (t.length + 1) [] t)) ∧ K = ⟨[(0, .cells true (t.map bV))], 1⟩) := parse_gen (fun R T hT => RenV.full h0 hT) ht
theorem parse0_call : VCall Tryd.prog 5 [.sl 0 0 0 (some 0) 1] ⟨[(0, .cells true [])], 1⟩ (fun v K => v = parseV (.err 2) ∧ K = ⟨[(0, .cells true [])], 1⟩) := parse_gen (t := []) (c := some 0) (fun R T hT w Z ρ ρ1 y _ hv => by
  have hv : VRel w Z ρ (.sl 0 0 0 (some 0) 1) y := hv
  cases hv with
  | sl => exact VRel.ro0) (by simp)
end Go.Proofs.YthjfobafdclafaaDoor

/- A part's and a compound's text, written to a builder: walked. -/
namespace Go.Proofs.YthjfobafdclafaaDoor
open Go Go.RowKit
set_option linter.unusedSimpArgs false
set_option linter.unusedVariables false
set_option maxRecDepth 100000
set_option maxHeartbeats 8000000
theorem app_strW (a c : List UInt8) : ((⟨a.toArray⟩ : ByteArray) ++ ⟨c.toArray⟩) = ⟨(a ++ c).toArray⟩ := by
  apply ByteArray.ext
  simp
theorem wcat2 (a c : List UInt8) : VV.sc (.string ((⟨a.toArray⟩ : ByteArray) ++ ⟨c.toArray⟩)) = strV (a ++ c) := by
  rw [app_strW]
  rfl
theorem wcat3 (n : List UInt8) : VV.sc (.string (((⟨#[91]⟩ : ByteArray) ++ ⟨n.toArray⟩) ++ (⟨#[93]⟩ : ByteArray))) = strV (91 :: (n ++ [93])) := by
  have e1 : (⟨#[91]⟩ : ByteArray) = ⟨([91] : List UInt8).toArray⟩ := rfl
  have e2 : (⟨#[93]⟩ : ByteArray) = ⟨([93] : List UInt8).toArray⟩ := rfl
  rw [e1, e2, app_strW, app_strW]
  unfold strV
  simp
theorem wcat4 (n t : List UInt8) : VV.sc (.string ((((((⟨#[91]⟩ : ByteArray) ++ ⟨n.toArray⟩) ++ (⟨#[61, 34]⟩ : ByteArray)) ++ ⟨t.toArray⟩)) ++ (⟨#[34, 93]⟩ : ByteArray))) = strV (91 :: (n ++ [61, 34] ++ t ++ [34, 93])) := by
  have e1 : (⟨#[91]⟩ : ByteArray) = ⟨([91] : List UInt8).toArray⟩ := rfl
  have e2 : (⟨#[61, 34]⟩ : ByteArray) = ⟨([61, 34] : List UInt8).toArray⟩ := rfl
  have e3 : (⟨#[34, 93]⟩ : ByteArray) = ⟨([34, 93] : List UInt8).toArray⟩ := rfl
  rw [e1, e2, e3, app_strW, app_strW, app_strW, app_strW]
  unfold strV
  simp
theorem wsAt {x : VV} {s l : List UInt8} {u : Bool} {H : Heap} {b m : Nat} (hx : x = strV s) (hul : u = false → l = []) (hm : l.length + s.length ≤ 500000000) (hb : H.get b = some (sbV u b m l)) (hg : H.get m = some (bufX 5 l)) (hbm : Nat.beq m b = false) :
    VCall Tryd.prog 16 [.ptr b 0, x] H (fun v K => v = .tp [iV s.length, .sc .nilIface] ∧ K = ⟨sbO true b H.next (l ++ s) ++ restO [b, m] H.objs, H.next + 1⟩) := by
  subst hx
  refine (VCall.sbAt (p := fun u' => u' = true) (nameless_tp (by simp [nameless_sc, iV])) (sb_args (strV s) (nameless_strV s)) ((wstr_call u l s hul hm).mono fun v K e => ⟨e.1, true, rfl, e.2⟩) hb hg hbm).mono ?_
  rintro v K ⟨rfl, u', rfl, rfl⟩
  exact ⟨rfl, rfl⟩
theorem wbAt {c : UInt8} {l : List UInt8} {u : Bool} {H : Heap} {b m : Nat} (hul : u = false → l = []) (hm : l.length + [c].length ≤ 500000000) (hb : H.get b = some (sbV u b m l)) (hg : H.get m = some (bufX 5 l)) (hbm : Nat.beq m b = false) :
    VCall Tryd.prog 17 [.ptr b 0, bV c] H (fun v K => v = .sc .nilIface ∧ K = ⟨sbO true b H.next (l ++ [c]) ++ restO [b, m] H.objs, H.next + 1⟩) := by
  refine (VCall.sbAt (p := fun u' => u' = true) (nameless_sc _) (sb_args (bV c) (nameless_bV c)) ((wbyte_call u l c hul hm).mono fun v K e => ⟨e.1, true, rfl, e.2⟩) hb hg hbm).mono ?_
  rintro v K ⟨rfl, u', rfl, rfl⟩
  exact ⟨rfl, rfl⟩
/-- Behind a call that was given a builder at name 0. -/
theorem VCall.sbOut {P : Program} {f : FuncId} {args : List VV} {O : List (Nat × VObj)} {l : List UInt8} {r : VV} (hr : Nameless r) (h : VCall P f args ⟨O, 2⟩ (fun v K => v = r ∧ ∃ u m, (u = false → l = []) ∧ K.get 0 = some (sbV u 0 m l) ∧ K.get m = some (bufX 5 l) ∧ m ≠ 0)) :
    VCall P f args ⟨O, 2⟩ (fun v K => v = r ∧ ∃ u', (u' = false → l = []) ∧ K = ⟨sbO u' 0 2 l, 3⟩) := by
  refine VCall.outR h ?_
  rintro v K ⟨rfl, u, m, hul, g0, g1, hm⟩
  have hb : Nat.beq 0 m = false := beq_ne fun e => hm e.symm
  refine ⟨v, sbO u 0 2 l, 3, [(m, 2)], ?_, .of hr, ⟨⟨_, g0, sbV_ren (.ptrL (by show 0 < 2; decide)) (List.Mem.head _)⟩, ⟨_, g1, buf_ren l⟩, trivial⟩, rfl, u, hul, rfl⟩
  show (wfR 2 3 [(m, 2)] && nodupB [0, m] && Nat.ble 2 3 && _) = true
  simp only [nodupB, List.all_cons, List.all_nil, hb]
  rfl
def PW (p : SPart) : Prop := ∀ (u : Bool) (d : List UInt8), (u = false → d = []) → d.length + 2 * mP p ≤ 90000000 → VCall Tryd.prog 33 [.ag (cellsP kN p), .ptr 0 0] ⟨sbO u 0 1 d, 2⟩ (fun v K => v = .tp [] ∧ ∃ u', (u' = false → d ++ txtP p = []) ∧ K = ⟨sbO u' 0 2 (d ++ txtP p), 3⟩)
def CW (l : List SPart) : Prop := ∀ (u : Bool) (d : List UInt8), (u = false → d = []) → d.length + 2 * mQ l + 1 ≤ 90000000 → VCall Tryd.prog 18 [.ro l.length (rowsQ kN l), .ptr 0 0] ⟨sbO u 0 1 d, 2⟩ (fun v K => v = .tp [] ∧ ∃ u', (u' = false → d ++ txtC l = []) ∧ K = ⟨sbO u' 0 2 (d ++ txtC l), 3⟩)
theorem part_step (k : Nat) (n t : List UInt8) (i : List SPart) (hi : CW i) : PW (.mk k n t i) := by
  intro u d hul hd
  have hm : d.length + (txtP (.mk k n t i)).length ≤ 100000000 := by have := txtP_m (.mk k n t i); omega
  rw [mP] at hd
  have hci := txtC_le i
  refine VCall.sbOut (nameless_tp (by simp)) ?_
  rw [cellsP]
  by_cases h1 : k = 1
  · subst h1
    have e : txtP (.mk 1 n t i) = n := by rw [txtP]; rfl
    rw [e] at hm ⊢
    refine VCall.go Tryd.func33 rfl ?_
    repeat' (first|with_reducible refine And.intro ?_ ?_|((with_reducible intro hc);(try simp only [zA,zB,zC,zD,zE,zF,zG,zH,zI,zJ,zK,zL,zM,zN,zO,zP,zQ,zR,zS,zT,zU,zV,zW] at hc);(first|exact absurd rfl hc|exact absurd trivial hc|(exfalso;omega)|skip))|exact Is.mk rfl rfl|((conv => whnf);first|with_reducible refine And.intro ?_ ?_|with_reducible intro hx|exact Is.mk rfl rfl|(with_reducible first|apply Val.via|apply ValH.via)|refine ifB_intro ?_ ?_|refine xA (by omega) ?_|(refine xB ?_;intro kw hk1 hk2)|refine xC (by omega) ?_|refine xD ?_|refine xE (by omega) ?_|refine xF (by omega) ?_|refine xG ?_|refine xH ?_|refine xI (by omega) ?_|refine xJ (by omega) ?_|(with_reducible refine stopA ?_)|refine Exists.intro _ (And.intro (by (first|exact vat_of rfl rfl rfl|rfl)) ?_)|refine GOp.drawn (by rfl) (by rfl) (Nat.le_of_ble_eq_true (by rfl)) (by rfl)|refine GOp.via (by rfl) ?_|refine GWP.drawY mixed _ (by kernel_rfl) (by rfl) ?_|((refine GCall.mk ((wsAt (x := _) (s := n) (by first|rfl|exact wcat2 _ _|exact wcat3 _|exact wcat4 _ _) (by first|exact hul|simp) (by first|omega|(simp only [List.length_append,List.length_cons,List.length_nil] at hm ⊢;omega)) rfl rfl rfl).mono ?_);rintro _ _ ⟨rfl,rfl⟩))|(with_reducible first|refine stopO ?_|refine stopE ?_|refine stopD ?_|refine stopW ?_|refine stopG ?_|refine stopC ?_|refine stopR ?_)))
    (all_goals (first|omega|contradiction|(exfalso;have hmx : IntKind.i64.max = 9223372036854775807 := rfl;rw [hmx] at hx;simp [ByteArray.size_append,ByteArray.size] at hx hm;omega)|skip))
    exact Done'.mk ⟨rfl, true, 3, by simp, rfl, rfl, by simp⟩
  by_cases h2 : k = 2
  · subst h2
    have e : txtP (.mk 2 n t i) = [35] ++ t := by rw [txtP]; rfl
    rw [e] at hm ⊢
    refine VCall.go Tryd.func33 rfl ?_
    repeat' (first|with_reducible refine And.intro ?_ ?_|((with_reducible intro hc);(try simp only [zA,zB,zC,zD,zE,zF,zG,zH,zI,zJ,zK,zL,zM,zN,zO,zP,zQ,zR,zS,zT,zU,zV,zW] at hc);(first|exact absurd rfl hc|exact absurd trivial hc|(exfalso;omega)|skip))|exact Is.mk rfl rfl|((conv => whnf);first|with_reducible refine And.intro ?_ ?_|with_reducible intro hx|exact Is.mk rfl rfl|(with_reducible first|apply Val.via|apply ValH.via)|refine ifB_intro ?_ ?_|refine xA (by omega) ?_|(refine xB ?_;intro kw hk1 hk2)|refine xC (by omega) ?_|refine xD ?_|refine xE (by omega) ?_|refine xF (by omega) ?_|refine xG ?_|refine xH ?_|refine xI (by omega) ?_|refine xJ (by omega) ?_|(with_reducible refine stopA ?_)|refine Exists.intro _ (And.intro (by (first|exact vat_of rfl rfl rfl|rfl)) ?_)|refine GOp.drawn (by rfl) (by rfl) (Nat.le_of_ble_eq_true (by rfl)) (by rfl)|refine GOp.via (by rfl) ?_|refine GWP.drawY mixed _ (by kernel_rfl) (by rfl) ?_|((refine GCall.mk ((wsAt (x := _) (s := ([35] ++ t)) (by first|rfl|exact wcat2 _ _|exact wcat3 _|exact wcat4 _ _) (by first|exact hul|simp) (by first|omega|(simp only [List.length_append,List.length_cons,List.length_nil] at hm ⊢;omega)) rfl rfl rfl).mono ?_);rintro _ _ ⟨rfl,rfl⟩))|(with_reducible first|refine stopO ?_|refine stopE ?_|refine stopD ?_|refine stopW ?_|refine stopG ?_|refine stopC ?_|refine stopR ?_)))
    (all_goals (first|omega|contradiction|(exfalso;have hmx : IntKind.i64.max = 9223372036854775807 := rfl;rw [hmx] at hx;simp [ByteArray.size_append,ByteArray.size] at hx hm;omega)|skip))
    exact Done'.mk ⟨rfl, true, 3, by simp, rfl, rfl, by simp⟩
  by_cases h3 : k = 3
  · subst h3
    have e : txtP (.mk 3 n t i) = 91 :: (n ++ [93]) := by rw [txtP]; rfl
    rw [e] at hm ⊢
    refine VCall.go Tryd.func33 rfl ?_
    repeat' (first|with_reducible refine And.intro ?_ ?_|((with_reducible intro hc);(try simp only [zA,zB,zC,zD,zE,zF,zG,zH,zI,zJ,zK,zL,zM,zN,zO,zP,zQ,zR,zS,zT,zU,zV,zW] at hc);(first|exact absurd rfl hc|exact absurd trivial hc|(exfalso;omega)|skip))|exact Is.mk rfl rfl|((conv => whnf);first|with_reducible refine And.intro ?_ ?_|with_reducible intro hx|exact Is.mk rfl rfl|(with_reducible first|apply Val.via|apply ValH.via)|refine ifB_intro ?_ ?_|refine xA (by omega) ?_|(refine xB ?_;intro kw hk1 hk2)|refine xC (by omega) ?_|refine xD ?_|refine xE (by omega) ?_|refine xF (by omega) ?_|refine xG ?_|refine xH ?_|refine xI (by omega) ?_|refine xJ (by omega) ?_|(with_reducible refine stopA ?_)|refine Exists.intro _ (And.intro (by (first|exact vat_of rfl rfl rfl|rfl)) ?_)|refine GOp.drawn (by rfl) (by rfl) (Nat.le_of_ble_eq_true (by rfl)) (by rfl)|refine GOp.via (by rfl) ?_|refine GWP.drawY mixed _ (by kernel_rfl) (by rfl) ?_|((refine GCall.mk ((wsAt (x := _) (s := (91 :: (n ++ [93]))) (by first|rfl|exact wcat2 _ _|exact wcat3 _|exact wcat4 _ _) (by first|exact hul|simp) (by first|omega|(simp only [List.length_append,List.length_cons,List.length_nil] at hm ⊢;omega)) rfl rfl rfl).mono ?_);rintro _ _ ⟨rfl,rfl⟩))|(with_reducible first|refine stopO ?_|refine stopE ?_|refine stopD ?_|refine stopW ?_|refine stopG ?_|refine stopC ?_|refine stopR ?_)))
    (all_goals (first|omega|contradiction|(exfalso;have hmx : IntKind.i64.max = 9223372036854775807 := rfl;rw [hmx] at hx;simp [ByteArray.size_append,ByteArray.size] at hx hm;omega)|skip))
    exact Done'.mk ⟨rfl, true, 3, by simp, rfl, rfl, by simp⟩
  by_cases h4 : k = 4
  · subst h4
    have e : txtP (.mk 4 n t i) = 91 :: (n ++ [61, 34] ++ t ++ [34, 93]) := by rw [txtP]; rfl
    rw [e] at hm ⊢
    refine VCall.go Tryd.func33 rfl ?_
    repeat' (first|with_reducible refine And.intro ?_ ?_|((with_reducible intro hc);(try simp only [zA,zB,zC,zD,zE,zF,zG,zH,zI,zJ,zK,zL,zM,zN,zO,zP,zQ,zR,zS,zT,zU,zV,zW] at hc);(first|exact absurd rfl hc|exact absurd trivial hc|(exfalso;omega)|skip))|exact Is.mk rfl rfl|((conv => whnf);first|with_reducible refine And.intro ?_ ?_|with_reducible intro hx|exact Is.mk rfl rfl|(with_reducible first|apply Val.via|apply ValH.via)|refine ifB_intro ?_ ?_|refine xA (by omega) ?_|(refine xB ?_;intro kw hk1 hk2)|refine xC (by omega) ?_|refine xD ?_|refine xE (by omega) ?_|refine xF (by omega) ?_|refine xG ?_|refine xH ?_|refine xI (by omega) ?_|refine xJ (by omega) ?_|(with_reducible refine stopA ?_)|refine Exists.intro _ (And.intro (by (first|exact vat_of rfl rfl rfl|rfl)) ?_)|refine GOp.drawn (by rfl) (by rfl) (Nat.le_of_ble_eq_true (by rfl)) (by rfl)|refine GOp.via (by rfl) ?_|refine GWP.drawY mixed _ (by kernel_rfl) (by rfl) ?_|((refine GCall.mk ((wsAt (x := _) (s := (91 :: (n ++ [61,34] ++ t ++ [34,93]))) (by first|rfl|exact wcat2 _ _|exact wcat3 _|exact wcat4 _ _) (by first|exact hul|simp) (by first|omega|(simp only [List.length_append,List.length_cons,List.length_nil] at hm ⊢;omega)) rfl rfl rfl).mono ?_);rintro _ _ ⟨rfl,rfl⟩))|(with_reducible first|refine stopO ?_|refine stopE ?_|refine stopD ?_|refine stopW ?_|refine stopG ?_|refine stopC ?_|refine stopR ?_)))
    (all_goals (first|omega|contradiction|(exfalso;have hmx : IntKind.i64.max = 9223372036854775807 := rfl;rw [hmx] at hx;simp [ByteArray.size_append,ByteArray.size] at hx hm;omega)|skip))
    exact Done'.mk ⟨rfl, true, 3, by simp, rfl, rfl, by simp⟩
  by_cases h5 : k = 5
  · subst h5
    have e : txtP (.mk 5 n t i) = wFirst := by rw [txtP]; rfl
    rw [e] at hm ⊢
    refine VCall.go Tryd.func33 rfl ?_
    repeat' (first|with_reducible refine And.intro ?_ ?_|((with_reducible intro hc);(try simp only [zA,zB,zC,zD,zE,zF,zG,zH,zI,zJ,zK,zL,zM,zN,zO,zP,zQ,zR,zS,zT,zU,zV,zW] at hc);(first|exact absurd rfl hc|exact absurd trivial hc|(exfalso;omega)|skip))|exact Is.mk rfl rfl|((conv => whnf);first|with_reducible refine And.intro ?_ ?_|with_reducible intro hx|exact Is.mk rfl rfl|(with_reducible first|apply Val.via|apply ValH.via)|refine ifB_intro ?_ ?_|refine xA (by omega) ?_|(refine xB ?_;intro kw hk1 hk2)|refine xC (by omega) ?_|refine xD ?_|refine xE (by omega) ?_|refine xF (by omega) ?_|refine xG ?_|refine xH ?_|refine xI (by omega) ?_|refine xJ (by omega) ?_|(with_reducible refine stopA ?_)|refine Exists.intro _ (And.intro (by (first|exact vat_of rfl rfl rfl|rfl)) ?_)|refine GOp.drawn (by rfl) (by rfl) (Nat.le_of_ble_eq_true (by rfl)) (by rfl)|refine GOp.via (by rfl) ?_|refine GWP.drawY mixed _ (by kernel_rfl) (by rfl) ?_|((refine GCall.mk ((wsAt (x := _) (s := wFirst) (by first|rfl|exact wcat2 _ _|exact wcat3 _|exact wcat4 _ _) (by first|exact hul|simp) (by first|omega|(simp only [List.length_append,List.length_cons,List.length_nil] at hm ⊢;omega)) rfl rfl rfl).mono ?_);rintro _ _ ⟨rfl,rfl⟩))|(with_reducible first|refine stopO ?_|refine stopE ?_|refine stopD ?_|refine stopW ?_|refine stopG ?_|refine stopC ?_|refine stopR ?_)))
    (all_goals (first|omega|contradiction|(exfalso;have hmx : IntKind.i64.max = 9223372036854775807 := rfl;rw [hmx] at hx;simp [ByteArray.size_append,ByteArray.size] at hx hm;omega)|skip))
    exact Done'.mk ⟨rfl, true, 3, by simp, rfl, rfl, by simp⟩
  by_cases h6 : k = 6
  · subst h6
    have e : txtP (.mk 6 n t i) = wEmpty := by rw [txtP]; rfl
    rw [e] at hm ⊢
    refine VCall.go Tryd.func33 rfl ?_
    repeat' (first|with_reducible refine And.intro ?_ ?_|((with_reducible intro hc);(try simp only [zA,zB,zC,zD,zE,zF,zG,zH,zI,zJ,zK,zL,zM,zN,zO,zP,zQ,zR,zS,zT,zU,zV,zW] at hc);(first|exact absurd rfl hc|exact absurd trivial hc|(exfalso;omega)|skip))|exact Is.mk rfl rfl|((conv => whnf);first|with_reducible refine And.intro ?_ ?_|with_reducible intro hx|exact Is.mk rfl rfl|(with_reducible first|apply Val.via|apply ValH.via)|refine ifB_intro ?_ ?_|refine xA (by omega) ?_|(refine xB ?_;intro kw hk1 hk2)|refine xC (by omega) ?_|refine xD ?_|refine xE (by omega) ?_|refine xF (by omega) ?_|refine xG ?_|refine xH ?_|refine xI (by omega) ?_|refine xJ (by omega) ?_|(with_reducible refine stopA ?_)|refine Exists.intro _ (And.intro (by (first|exact vat_of rfl rfl rfl|rfl)) ?_)|refine GOp.drawn (by rfl) (by rfl) (Nat.le_of_ble_eq_true (by rfl)) (by rfl)|refine GOp.via (by rfl) ?_|refine GWP.drawY mixed _ (by kernel_rfl) (by rfl) ?_|((refine GCall.mk ((wsAt (x := _) (s := wEmpty) (by first|rfl|exact wcat2 _ _|exact wcat3 _|exact wcat4 _ _) (by first|exact hul|simp) (by first|omega|(simp only [List.length_append,List.length_cons,List.length_nil] at hm ⊢;omega)) rfl rfl rfl).mono ?_);rintro _ _ ⟨rfl,rfl⟩))|(with_reducible first|refine stopO ?_|refine stopE ?_|refine stopD ?_|refine stopW ?_|refine stopG ?_|refine stopC ?_|refine stopR ?_)))
    (all_goals (first|omega|contradiction|(exfalso;have hmx : IntKind.i64.max = 9223372036854775807 := rfl;rw [hmx] at hx;simp [ByteArray.size_append,ByteArray.size] at hx hm;omega)|skip))
    exact Done'.mk ⟨rfl, true, 3, by simp, rfl, rfl, by simp⟩
  by_cases h7 : k = 7
  · subst h7
    have e : txtP (.mk 7 n t i) = wNot ++ txtC i ++ [41] := by rw [txtP]; rfl
    rw [e] at hm ⊢
    simp only [wNot, List.length_append, List.length_cons, List.length_nil] at hm
    have hw : wNot.length = 5 := rfl
    have kc := fun H hb hg hbm => VCall.sbAt (H := H) (b := 0) (m := 3) (nameless_tp (by simp)) (sb_args2 _ (nameless_ro (rowsQ_nameless (fun k => nameless_sc _) i))) (hi true (d ++ wNot) (by simp) (by simp only [wNot, List.length_append, List.length_cons, List.length_nil]; omega)) hb hg hbm
    refine VCall.go Tryd.func33 rfl ?_
    repeat' (first|with_reducible refine And.intro ?_ ?_|((with_reducible intro hc);(try simp only [zA,zB,zC,zD,zE,zF,zG,zH,zI,zJ,zK,zL,zM,zN,zO,zP,zQ,zR,zS,zT,zU,zV,zW] at hc);(first|exact absurd rfl hc|exact absurd trivial hc|(exfalso;omega)|skip))|exact Is.mk rfl rfl|((conv => whnf);first|with_reducible refine And.intro ?_ ?_|with_reducible intro hx|exact Is.mk rfl rfl|(with_reducible first|apply Val.via|apply ValH.via)|refine ifB_intro ?_ ?_|refine xA (by omega) ?_|(refine xB ?_;intro kw hk1 hk2)|refine xC (by omega) ?_|refine xD ?_|refine xE (by omega) ?_|refine xF (by omega) ?_|refine xG ?_|refine xH ?_|refine xI (by omega) ?_|refine xJ (by omega) ?_|(with_reducible refine stopA ?_)|refine Exists.intro _ (And.intro (by (first|exact vat_of rfl rfl rfl|rfl)) ?_)|refine GOp.drawn (by rfl) (by rfl) (Nat.le_of_ble_eq_true (by rfl)) (by rfl)|refine GOp.via (by rfl) ?_|refine GWP.drawY mixed _ (by kernel_rfl) (by rfl) ?_|(first|((refine GCall.mk ((wsAt (x := _) (s := wNot) (by first|rfl|exact wcat2 _ _|exact wcat3 _|exact wcat4 _ _) (by first|exact hul|simp) (by first|omega|(simp only [List.length_append,List.length_cons,List.length_nil] at hm ⊢;omega)) rfl rfl rfl).mono ?_);rintro _ _ ⟨rfl,rfl⟩))|(refine GCall.mk ((kc _ rfl rfl rfl).mono ?_);rintro _ _ ⟨rfl,u1,hu1,rfl⟩)|(refine GCall.mk ((wsAt (x := _) (s := [41]) rfl hu1 (by simp only [wNot,List.length_append,List.length_cons,List.length_nil];omega) rfl rfl rfl).mono ?_);rintro _ _ ⟨rfl,rfl⟩))|(with_reducible first|refine stopO ?_|refine stopE ?_|refine stopD ?_|refine stopW ?_|refine stopG ?_|refine stopC ?_|refine stopR ?_)))
    (all_goals (first|omega|contradiction|(exfalso;have hmx : IntKind.i64.max = 9223372036854775807 := rfl;rw [hmx] at hx;simp [ByteArray.size_append,ByteArray.size] at hx hm;omega)|skip))
    exact Done'.mk ⟨rfl, true, 5, by simp, by simp only [List.append_assoc]; rfl, by simp only [List.append_assoc]; rfl, by simp⟩
  have e : txtP (.mk k n t i) = if k = 0 then [] else [] := by
    rw [txtP, if_neg h1, if_neg h2, if_neg h3, if_neg h4, if_neg h5, if_neg h6, if_neg h7]
    split <;> rfl
  rw [ite_self] at e
  rw [e] at hm ⊢
  rw [List.append_nil]
  refine VCall.go Tryd.func33 rfl ?_
  repeat' (first|with_reducible refine And.intro ?_ ?_|((with_reducible intro hc);(try simp only [zA,zB,zC,zD,zE,zF,zG,zH,zI,zJ,zK,zL,zM,zN,zO,zP,zQ,zR,zS,zT,zU,zV,zW] at hc);(first|exact absurd rfl hc|exact absurd trivial hc|(exfalso;omega)|skip))|exact Is.mk rfl rfl|((conv => whnf);first|with_reducible refine And.intro ?_ ?_|with_reducible intro hx|exact Is.mk rfl rfl|(with_reducible first|apply Val.via|apply ValH.via)|refine ifB_intro ?_ ?_|refine xA (by omega) ?_|(refine xB ?_;intro kw hk1 hk2)|refine xC (by omega) ?_|refine xD ?_|refine xE (by omega) ?_|refine xF (by omega) ?_|refine xG ?_|refine xH ?_|refine xI (by omega) ?_|refine xJ (by omega) ?_|(with_reducible refine stopA ?_)|refine Exists.intro _ (And.intro (by (first|exact vat_of rfl rfl rfl|rfl)) ?_)|refine GOp.drawn (by rfl) (by rfl) (Nat.le_of_ble_eq_true (by rfl)) (by rfl)|refine GOp.via (by rfl) ?_|refine GWP.drawY mixed _ (by kernel_rfl) (by rfl) ?_|fail|(with_reducible first|refine stopO ?_|refine stopE ?_|refine stopD ?_|refine stopW ?_|refine stopG ?_|refine stopC ?_|refine stopR ?_)))
  (all_goals (first|omega|contradiction|(exfalso;have hmx : IntKind.i64.max = 9223372036854775807 := rfl;rw [hmx] at hx;simp [ByteArray.size_append,ByteArray.size] at hx hm;omega)|skip))
  exact Done'.mk ⟨rfl, u, 1, hul, rfl, rfl, by simp⟩
theorem vat_rowsQ {l : List SPart} {i o : Nat} {p : SPart} (h : l[i]? = some p) (ho : o = i * 4) : vat Tryd.prog 83 (rowsQ kN l) o = some (.ag (cellsP kN p)) := by
  subst ho
  obtain ⟨h1, h2⟩ := rowsQ_at kN l i p h
  have h0 : vagg Tryd.prog 83 = some true := by kernel_rfl
  have hz : vsize Tryd.prog 83 = some 4 := by kernel_rfl
  have h3 : Nat.ble (i * 4 + 4) (rowsQ kN l).length = true := Nat.ble_eq_true_of_le h2
  simp only [vat, h0, hz, h3]
  exact congrArg (fun x => some (VV.ag x)) h1
theorem vat_rowsK {l : List SPart} {i o k : Nat} {n t : List UInt8} {q : List SPart} (h : l[i]? = some (.mk k n t q)) (ho : o = i * 4) : vat Tryd.prog 83 (rowsQ kN l) o = some (.ag [kN k, strV n, strV t, .ro q.length (rowsQ kN q)]) := by
  rw [vat_rowsQ h ho, cellsP]
theorem txtQ_take {l : List SPart} {i : Nat} {p : SPart} (h : l[i]? = some p) : txtQ (l.take (i + 1)) = txtQ (l.take i) ++ txtP p := by
  obtain ⟨hj, e⟩ := List.getElem?_eq_some_iff.1 h
  rw [List.take_succ_eq_append_getElem hj, e]
  have key : ∀ a : List SPart, txtQ (a ++ [p]) = txtQ a ++ txtP p := by
    intro a
    induction a with
    | nil => simp [txtQ]
    | cons x r ih => rw [List.cons_append, txtQ, txtQ, ih, List.append_assoc]
  exact key _
theorem anyQ_len (l : List SPart) : (anyQ l).length ≤ 1 := by
  unfold anyQ
  split <;> simp
theorem rowsQ_hd (k : Nat) (n t : List UInt8) (i r : List SPart) : (rowsQ kN (.mk k n t i :: r))[0]? = some (iV k) := by
  rw [rowsQ, cellsP]
  rfl
theorem mul4 {x : Int} {i : Nat} {z : Nat} (hx : x = i) (hz : z = 4) : x.toNat * z = i * 4 := by subst hx hz; rfl
theorem comp_step (lst : List SPart) (h : ∀ p ∈ lst, PW p) : CW lst := by
  intro u d hul hd
  have hll := mQ_len lst
  refine VCall.sbOut (nameless_tp (by simp)) ?_
  have rnd : ∀ (i : Nat) (p : SPart) (u : Bool) (dn : List UInt8), lst[i]? = some p → dn = d ++ anyQ lst ++ txtQ (lst.take i) → (u = false → dn = []) → ∀ (H : Heap), H.get 0 = some (sbV u 0 3 dn) → H.get 3 = some (bufX 5 dn) → VCall Tryd.prog 33 [.ag (cellsP kN p), .ptr 0 0] H (fun v K => v = .tp [] ∧ ∃ u', (u' = false → dn ++ txtP p = []) ∧ K = ⟨sbO u' 0 H.next (dn ++ txtP p) ++ restO [0, 3] H.objs, H.next + 1⟩) := by
    intro i p u dn hpi hdn hu H h0 h3
    have hmem := List.mem_of_getElem? hpi
    have h1 := mQ_take hpi
    have h2 := txtQ_m (lst.take i)
    have h4 := anyQ_len lst
    refine VCall.sbAt (nameless_tp (by simp)) (sb_args2 _ (nameless_ag (cellsP_nameless (fun k => nameless_sc _) p))) (h p hmem u dn hu ?_) h0 h3 rfl
    rw [hdn]
    simp only [List.length_append]
    omega
  by_cases hl1 : lst.length = 1
  · obtain ⟨p, hlp⟩ : ∃ p, lst = [p] := by
      cases lst with
      | nil => simp at hl1
      | cons p r =>
        cases r with
        | nil => exact ⟨p, rfl⟩
        | cons q r => simp at hl1
    obtain ⟨k, n, t, q⟩ := p
    cases k with
    | zero =>
      have hany : anyQ lst = [42] := by rw [hlp]; rfl
      have hh0 : (rowsQ kN lst)[0]? = some (iV (0 : Nat)) := by rw [hlp, rowsQ_hd]
      refine VCall.go Tryd.func18 rfl ?_
      repeat' (first|with_reducible refine And.intro ?_ ?_|((with_reducible intro hc);(try simp only [zA,zB,zC,zD,zE,zF,zG,zH,zI,zJ,zK,zL,zM,zN,zO,zP,zQ,zR,zS,zT,zU,zV,zW] at hc);(first|exact absurd rfl hc|exact absurd trivial hc|(exfalso;omega)|skip))|exact Is.mk rfl rfl|((conv => whnf);first|with_reducible refine And.intro ?_ ?_|with_reducible intro hx|exact Is.mk rfl rfl|(with_reducible first|apply Val.via|apply ValH.via)|refine ifB_intro ?_ ?_|refine xA (by omega) ?_|(refine xB ?_;intro kw hk1 hk2)|refine xC (by omega) ?_|refine xD ?_|refine xE (by omega) ?_|refine xF (by omega) ?_|refine xG ?_|refine xH ?_|refine xI (by omega) ?_|refine xJ (by omega) ?_|(with_reducible refine stopA ?_)|refine Exists.intro _ (And.intro (by (first|exact vat_of rfl rfl rfl|exact vat_of rfl hh0 rfl|exact vat_rowsK hpi rfl|exact vat_rowsK hpi ((Nat.zero_add _).trans (mul4 rfl rfl))|rfl)) ?_)|refine GOp.drawn (by rfl) (by rfl) (Nat.le_of_ble_eq_true (by rfl)) (by rfl)|refine GOp.via (by rfl) ?_|refine GWP.drawY mixed _ (by kernel_rfl) (by rfl) ?_|(refine GCall.mk ((wbAt (c := 42) hul (by simp only [List.length_cons,List.length_nil];omega) rfl rfl rfl).mono ?_);rintro _ _ ⟨rfl,rfl⟩)|(with_reducible first|refine stopO ?_|refine stopE ?_|refine stopD ?_|refine stopW ?_|refine stopG ?_|refine stopC ?_|refine stopR ?_)))
      (all_goals (first|omega|contradiction|(exfalso;have hmx : IntKind.i64.max = 9223372036854775807 := rfl;rw [hmx] at hx;simp [ByteArray.size_append,ByteArray.size] at hx hm;omega)|skip))
      ((refine GWP'.mk (GWP.loopB [0,2] (fun (b : Nat × Bool × List UInt8) => b.1 ≤ lst.length ∧ b.2.2 = d ++ anyQ lst ++ txtQ (lst.take b.1) ∧ (b.2.1 = false → b.2.2 = [])) (fun b => [(20,iV b.1)]) (fun b => [(0,sbV b.2.1 0 3 b.2.2),(3,bufX 5 b.2.2)]) 4 (fun b => lst.length - b.1) (0,true,(d ++ [42])) ⟨Nat.zero_le _,by rw [hany];simp [txtQ],by simp⟩ ?_);(conv => whnf);refine And.intro ?_ ?_));(focus (focus (refine KeptA.of [(2,3)] rfl rfl (by repeat' (first|exact trivial|refine And.intro rfl ?_)) rfl ?_ ?_;all_goals (repeat' (first|exact trivial|(refine And.intro ?_ ?_)|(refine Exists.intro _ (And.intro rfl ?_))|(refine RenO.opt ?_)|(refine RenO.toOpt ?_)|(refine RenO.cells ?_)|exact RenO.defs|exact RenL.nil|(refine RenL.cons ?_ ?_)|(first|(first|exact sbV_ren (.ptrL (Nat.zero_lt_succ _)) (List.Mem.head _)|exact buf_ren _|exact RenV.ptrL (Nat.zero_lt_succ _)|exact bufV_ren (List.Mem.head _)|exact RenV.eq (scI_eq (by omega)) (nameless_sc _))|(with_reducible exact RenV.sc)|exact RenV.gsN|exact RenV.gsZ|exact RenV.gsL (by decide)|exact RenV.slL (by decide)|((first|refine RenV.gsE (by (first|exact mhA|exact mhB|exact mhC|(simp;done))) ?_|refine RenV.eq (scI_eq ?_) (nameless_sc _));(first|rfl|omega|(simp only [List.length_append,List.length_cons,List.length_nil,List.length_map,List.length_take,List.length_drop] <;> omega)|(simp only <;> omega)|(simp <;> omega)))|exact RenV.undef)|(with_unfolding_all exact (rfl : (_ : VObj) = _)))))));rintro ⟨i,u1,dn⟩ ⟨g1,g2,g3⟩;simp only at g1 g2 g3 ⊢;by_cases hil : i < lst.length;(focus ((obtain ⟨p,hpi⟩ : ∃ p,lst[i]? = some p := ⟨_,List.getElem?_eq_getElem hil⟩);(have k1 := rnd i p u1 dn hpi g2 g3);(have htk := txtQ_take hpi);(obtain ⟨kp,np,tp,qp⟩ := p);(rw [cellsP] at k1);(repeat' (first|with_reducible refine And.intro ?_ ?_|((with_reducible intro hc);(try simp only [zA,zB,zC,zD,zE,zF,zG,zH,zI,zJ,zK,zL,zM,zN,zO,zP,zQ,zR,zS,zT,zU,zV,zW] at hc);(first|exact absurd rfl hc|exact absurd trivial hc|(exfalso;omega)|skip))|exact Is.mk rfl rfl|((conv => whnf);first|with_reducible refine And.intro ?_ ?_|with_reducible intro hx|exact Is.mk rfl rfl|(with_reducible first|apply Val.via|apply ValH.via)|refine ifB_intro ?_ ?_|refine xA (by omega) ?_|(refine xB ?_;intro kw hk1 hk2)|refine xC (by omega) ?_|refine xD ?_|refine xE (by omega) ?_|refine xF (by omega) ?_|refine xG ?_|refine xH ?_|refine xI (by omega) ?_|refine xJ (by omega) ?_|(with_reducible refine stopA ?_)|refine Exists.intro _ (And.intro (by (first|exact vat_of rfl rfl rfl|exact vat_of rfl hh0 rfl|exact vat_rowsK hpi rfl|exact vat_rowsK hpi ((Nat.zero_add _).trans (mul4 rfl rfl))|rfl)) ?_)|refine GOp.drawn (by rfl) (by rfl) (Nat.le_of_ble_eq_true (by rfl)) (by rfl)|refine GOp.via (by rfl) ?_|refine GWP.drawY mixed _ (by kernel_rfl) (by rfl) ?_|(refine GCall.mk ((k1 _ rfl rfl).mono ?_);rintro _ _ ⟨rfl,u2,hu2,rfl⟩)|(with_reducible first|refine stopO ?_|refine stopE ?_|refine stopD ?_|refine stopW ?_|refine stopG ?_|refine stopC ?_|refine stopR ?_))));(all_goals (first|omega|contradiction|(exfalso;have hmx : IntKind.i64.max = 9223372036854775807 := rfl;rw [hmx] at hx;simp [ByteArray.size_append,ByteArray.size] at hx hm;omega)|skip));(focus (refine Done'.mk ⟨(i + 1,u2,dn ++ txtP (.mk kp np tp qp)),⟨by simp only;omega,by rw [g2,htk];simp only [List.append_assoc],hu2⟩,?_,KeptA.of [(5,3)] rfl rfl (by repeat' (first|exact trivial|refine And.intro rfl ?_)) rfl ?_ ?_⟩;(first|omega|(simp only;omega));all_goals (repeat' (first|exact trivial|(refine And.intro ?_ ?_)|(refine Exists.intro _ (And.intro rfl ?_))|(refine RenO.opt ?_)|(refine RenO.toOpt ?_)|(refine RenO.cells ?_)|exact RenO.defs|exact RenL.nil|(refine RenL.cons ?_ ?_)|(first|(first|exact sbV_ren (.ptrL (Nat.zero_lt_succ _)) (List.Mem.head _)|exact buf_ren _|exact RenV.ptrL (Nat.zero_lt_succ _)|exact bufV_ren (List.Mem.head _)|exact RenV.eq (scI_eq (by omega)) (nameless_sc _))|(with_reducible exact RenV.sc)|exact RenV.gsN|exact RenV.gsZ|exact RenV.gsL (by decide)|exact RenV.slL (by decide)|((first|refine RenV.gsE (by (first|exact mhA|exact mhB|exact mhC|(simp;done))) ?_|refine RenV.eq (scI_eq ?_) (nameless_sc _));(first|rfl|omega|(simp only [List.length_append,List.length_cons,List.length_nil,List.length_map,List.length_take,List.length_drop] <;> omega)|(simp only <;> omega)|(simp <;> omega)))|exact RenV.undef)|(with_unfolding_all exact (rfl : (_ : VObj) = _))))))));(have hie : i = lst.length := by omega);(rw [hie,List.take_length] at g2);(have hte : dn = d ++ txtC lst := by rw [g2,List.append_assoc];rfl);(rw [← hte]);(repeat' (first|with_reducible refine And.intro ?_ ?_|((with_reducible intro hc);(try simp only [zA,zB,zC,zD,zE,zF,zG,zH,zI,zJ,zK,zL,zM,zN,zO,zP,zQ,zR,zS,zT,zU,zV,zW] at hc);(first|exact absurd rfl hc|exact absurd trivial hc|(exfalso;omega)|skip))|exact Is.mk rfl rfl|((conv => whnf);first|with_reducible refine And.intro ?_ ?_|with_reducible intro hx|exact Is.mk rfl rfl|(with_reducible first|apply Val.via|apply ValH.via)|refine ifB_intro ?_ ?_|refine xA (by omega) ?_|(refine xB ?_;intro kw hk1 hk2)|refine xC (by omega) ?_|refine xD ?_|refine xE (by omega) ?_|refine xF (by omega) ?_|refine xG ?_|refine xH ?_|refine xI (by omega) ?_|refine xJ (by omega) ?_|(with_reducible refine stopA ?_)|refine Exists.intro _ (And.intro (by (first|exact vat_of rfl rfl rfl|exact vat_of rfl hh0 rfl|exact vat_rowsK hpi rfl|exact vat_rowsK hpi ((Nat.zero_add _).trans (mul4 rfl rfl))|rfl)) ?_)|refine GOp.drawn (by rfl) (by rfl) (Nat.le_of_ble_eq_true (by rfl)) (by rfl)|refine GOp.via (by rfl) ?_|refine GWP.drawY mixed _ (by kernel_rfl) (by rfl) ?_|fail|(with_reducible first|refine stopO ?_|refine stopE ?_|refine stopD ?_|refine stopW ?_|refine stopG ?_|refine stopC ?_|refine stopR ?_))));(all_goals (first|omega|contradiction|(exfalso;have hmx : IntKind.i64.max = 9223372036854775807 := rfl;rw [hmx] at hx;simp [ByteArray.size_append,ByteArray.size] at hx hm;omega)|skip));exact Done'.mk ⟨rfl,u1,3,g3,rfl,rfl,by simp⟩
    | succ k =>
      have hany : anyQ lst = [] := by rw [hlp]; rfl
      have hh0 : (rowsQ kN lst)[0]? = some (iV ((k + 1 : Nat) : Int)) := by rw [hlp, rowsQ_hd]
      refine VCall.go Tryd.func18 rfl ?_
      repeat' (first|with_reducible refine And.intro ?_ ?_|((with_reducible intro hc);(try simp only [zA,zB,zC,zD,zE,zF,zG,zH,zI,zJ,zK,zL,zM,zN,zO,zP,zQ,zR,zS,zT,zU,zV,zW] at hc);(first|exact absurd rfl hc|exact absurd trivial hc|(exfalso;omega)|skip))|exact Is.mk rfl rfl|((conv => whnf);first|with_reducible refine And.intro ?_ ?_|with_reducible intro hx|exact Is.mk rfl rfl|(with_reducible first|apply Val.via|apply ValH.via)|refine ifB_intro ?_ ?_|refine xA (by omega) ?_|(refine xB ?_;intro kw hk1 hk2)|refine xC (by omega) ?_|refine xD ?_|refine xE (by omega) ?_|refine xF (by omega) ?_|refine xG ?_|refine xH ?_|refine xI (by omega) ?_|refine xJ (by omega) ?_|(with_reducible refine stopA ?_)|refine Exists.intro _ (And.intro (by (first|exact vat_of rfl rfl rfl|exact vat_of rfl hh0 rfl|exact vat_rowsK hpi rfl|exact vat_rowsK hpi ((Nat.zero_add _).trans (mul4 rfl rfl))|rfl)) ?_)|refine GOp.drawn (by rfl) (by rfl) (Nat.le_of_ble_eq_true (by rfl)) (by rfl)|refine GOp.via (by rfl) ?_|refine GWP.drawY mixed _ (by kernel_rfl) (by rfl) ?_|fail|(with_reducible first|refine stopO ?_|refine stopE ?_|refine stopD ?_|refine stopW ?_|refine stopG ?_|refine stopC ?_|refine stopR ?_)))
      (all_goals (first|omega|contradiction|(exfalso;have hmx : IntKind.i64.max = 9223372036854775807 := rfl;rw [hmx] at hx;simp [ByteArray.size_append,ByteArray.size] at hx hm;omega)|skip))
      ((refine GWP'.mk (GWP.loopB [0,1] (fun (b : Nat × Bool × List UInt8) => b.1 ≤ lst.length ∧ b.2.2 = d ++ anyQ lst ++ txtQ (lst.take b.1) ∧ (b.2.1 = false → b.2.2 = [])) (fun b => [(20,iV b.1)]) (fun b => [(0,sbV b.2.1 0 3 b.2.2),(3,bufX 5 b.2.2)]) 4 (fun b => lst.length - b.1) (0,u,d) ⟨Nat.zero_le _,by rw [hany];simp [txtQ],hul⟩ ?_);(conv => whnf);refine And.intro ?_ ?_));(focus (focus (refine KeptA.of [(1,3)] rfl rfl (by repeat' (first|exact trivial|refine And.intro rfl ?_)) rfl ?_ ?_;all_goals (repeat' (first|exact trivial|(refine And.intro ?_ ?_)|(refine Exists.intro _ (And.intro rfl ?_))|(refine RenO.opt ?_)|(refine RenO.toOpt ?_)|(refine RenO.cells ?_)|exact RenO.defs|exact RenL.nil|(refine RenL.cons ?_ ?_)|(first|(first|exact sbV_ren (.ptrL (Nat.zero_lt_succ _)) (List.Mem.head _)|exact buf_ren _|exact RenV.ptrL (Nat.zero_lt_succ _)|exact bufV_ren (List.Mem.head _)|exact RenV.eq (scI_eq (by omega)) (nameless_sc _))|(with_reducible exact RenV.sc)|exact RenV.gsN|exact RenV.gsZ|exact RenV.gsL (by decide)|exact RenV.slL (by decide)|((first|refine RenV.gsE (by (first|exact mhA|exact mhB|exact mhC|(simp;done))) ?_|refine RenV.eq (scI_eq ?_) (nameless_sc _));(first|rfl|omega|(simp only [List.length_append,List.length_cons,List.length_nil,List.length_map,List.length_take,List.length_drop] <;> omega)|(simp only <;> omega)|(simp <;> omega)))|exact RenV.undef)|(with_unfolding_all exact (rfl : (_ : VObj) = _)))))));rintro ⟨i,u1,dn⟩ ⟨g1,g2,g3⟩;simp only at g1 g2 g3 ⊢;by_cases hil : i < lst.length;(focus ((obtain ⟨p,hpi⟩ : ∃ p,lst[i]? = some p := ⟨_,List.getElem?_eq_getElem hil⟩);(have k1 := rnd i p u1 dn hpi g2 g3);(have htk := txtQ_take hpi);(obtain ⟨kp,np,tp,qp⟩ := p);(rw [cellsP] at k1);(repeat' (first|with_reducible refine And.intro ?_ ?_|((with_reducible intro hc);(try simp only [zA,zB,zC,zD,zE,zF,zG,zH,zI,zJ,zK,zL,zM,zN,zO,zP,zQ,zR,zS,zT,zU,zV,zW] at hc);(first|exact absurd rfl hc|exact absurd trivial hc|(exfalso;omega)|skip))|exact Is.mk rfl rfl|((conv => whnf);first|with_reducible refine And.intro ?_ ?_|with_reducible intro hx|exact Is.mk rfl rfl|(with_reducible first|apply Val.via|apply ValH.via)|refine ifB_intro ?_ ?_|refine xA (by omega) ?_|(refine xB ?_;intro kw hk1 hk2)|refine xC (by omega) ?_|refine xD ?_|refine xE (by omega) ?_|refine xF (by omega) ?_|refine xG ?_|refine xH ?_|refine xI (by omega) ?_|refine xJ (by omega) ?_|(with_reducible refine stopA ?_)|refine Exists.intro _ (And.intro (by (first|exact vat_of rfl rfl rfl|exact vat_of rfl hh0 rfl|exact vat_rowsK hpi rfl|exact vat_rowsK hpi ((Nat.zero_add _).trans (mul4 rfl rfl))|rfl)) ?_)|refine GOp.drawn (by rfl) (by rfl) (Nat.le_of_ble_eq_true (by rfl)) (by rfl)|refine GOp.via (by rfl) ?_|refine GWP.drawY mixed _ (by kernel_rfl) (by rfl) ?_|(refine GCall.mk ((k1 _ rfl rfl).mono ?_);rintro _ _ ⟨rfl,u2,hu2,rfl⟩)|(with_reducible first|refine stopO ?_|refine stopE ?_|refine stopD ?_|refine stopW ?_|refine stopG ?_|refine stopC ?_|refine stopR ?_))));(all_goals (first|omega|contradiction|(exfalso;have hmx : IntKind.i64.max = 9223372036854775807 := rfl;rw [hmx] at hx;simp [ByteArray.size_append,ByteArray.size] at hx hm;omega)|skip));(focus (refine Done'.mk ⟨(i + 1,u2,dn ++ txtP (.mk kp np tp qp)),⟨by simp only;omega,by rw [g2,htk];simp only [List.append_assoc],hu2⟩,?_,KeptA.of [(5,3)] rfl rfl (by repeat' (first|exact trivial|refine And.intro rfl ?_)) rfl ?_ ?_⟩;(first|omega|(simp only;omega));all_goals (repeat' (first|exact trivial|(refine And.intro ?_ ?_)|(refine Exists.intro _ (And.intro rfl ?_))|(refine RenO.opt ?_)|(refine RenO.toOpt ?_)|(refine RenO.cells ?_)|exact RenO.defs|exact RenL.nil|(refine RenL.cons ?_ ?_)|(first|(first|exact sbV_ren (.ptrL (Nat.zero_lt_succ _)) (List.Mem.head _)|exact buf_ren _|exact RenV.ptrL (Nat.zero_lt_succ _)|exact bufV_ren (List.Mem.head _)|exact RenV.eq (scI_eq (by omega)) (nameless_sc _))|(with_reducible exact RenV.sc)|exact RenV.gsN|exact RenV.gsZ|exact RenV.gsL (by decide)|exact RenV.slL (by decide)|((first|refine RenV.gsE (by (first|exact mhA|exact mhB|exact mhC|(simp;done))) ?_|refine RenV.eq (scI_eq ?_) (nameless_sc _));(first|rfl|omega|(simp only [List.length_append,List.length_cons,List.length_nil,List.length_map,List.length_take,List.length_drop] <;> omega)|(simp only <;> omega)|(simp <;> omega)))|exact RenV.undef)|(with_unfolding_all exact (rfl : (_ : VObj) = _))))))));(have hie : i = lst.length := by omega);(rw [hie,List.take_length] at g2);(have hte : dn = d ++ txtC lst := by rw [g2,List.append_assoc];rfl);(rw [← hte]);(repeat' (first|with_reducible refine And.intro ?_ ?_|((with_reducible intro hc);(try simp only [zA,zB,zC,zD,zE,zF,zG,zH,zI,zJ,zK,zL,zM,zN,zO,zP,zQ,zR,zS,zT,zU,zV,zW] at hc);(first|exact absurd rfl hc|exact absurd trivial hc|(exfalso;omega)|skip))|exact Is.mk rfl rfl|((conv => whnf);first|with_reducible refine And.intro ?_ ?_|with_reducible intro hx|exact Is.mk rfl rfl|(with_reducible first|apply Val.via|apply ValH.via)|refine ifB_intro ?_ ?_|refine xA (by omega) ?_|(refine xB ?_;intro kw hk1 hk2)|refine xC (by omega) ?_|refine xD ?_|refine xE (by omega) ?_|refine xF (by omega) ?_|refine xG ?_|refine xH ?_|refine xI (by omega) ?_|refine xJ (by omega) ?_|(with_reducible refine stopA ?_)|refine Exists.intro _ (And.intro (by (first|exact vat_of rfl rfl rfl|exact vat_of rfl hh0 rfl|exact vat_rowsK hpi rfl|exact vat_rowsK hpi ((Nat.zero_add _).trans (mul4 rfl rfl))|rfl)) ?_)|refine GOp.drawn (by rfl) (by rfl) (Nat.le_of_ble_eq_true (by rfl)) (by rfl)|refine GOp.via (by rfl) ?_|refine GWP.drawY mixed _ (by kernel_rfl) (by rfl) ?_|fail|(with_reducible first|refine stopO ?_|refine stopE ?_|refine stopD ?_|refine stopW ?_|refine stopG ?_|refine stopC ?_|refine stopR ?_))));(all_goals (first|omega|contradiction|(exfalso;have hmx : IntKind.i64.max = 9223372036854775807 := rfl;rw [hmx] at hx;simp [ByteArray.size_append,ByteArray.size] at hx hm;omega)|skip));exact Done'.mk ⟨rfl,u1,3,g3,rfl,rfl,by simp⟩
  · have hany : anyQ lst = [] := by
      cases lst with
      | nil => rfl
      | cons p r =>
        cases r with
        | nil => simp at hl1
        | cons q r =>
          cases p with
          | mk k n t i => cases k <;> rfl
    refine VCall.go Tryd.func18 rfl ?_
    repeat' (first|with_reducible refine And.intro ?_ ?_|((with_reducible intro hc);(try simp only [zA,zB,zC,zD,zE,zF,zG,zH,zI,zJ,zK,zL,zM,zN,zO,zP,zQ,zR,zS,zT,zU,zV,zW] at hc);(first|exact absurd rfl hc|exact absurd trivial hc|(exfalso;omega)|skip))|exact Is.mk rfl rfl|((conv => whnf);first|with_reducible refine And.intro ?_ ?_|with_reducible intro hx|exact Is.mk rfl rfl|(with_reducible first|apply Val.via|apply ValH.via)|refine ifB_intro ?_ ?_|refine xA (by omega) ?_|(refine xB ?_;intro kw hk1 hk2)|refine xC (by omega) ?_|refine xD ?_|refine xE (by omega) ?_|refine xF (by omega) ?_|refine xG ?_|refine xH ?_|refine xI (by omega) ?_|refine xJ (by omega) ?_|(with_reducible refine stopA ?_)|refine Exists.intro _ (And.intro (by (first|exact vat_of rfl rfl rfl|exact vat_of rfl hh0 rfl|exact vat_rowsK hpi rfl|exact vat_rowsK hpi ((Nat.zero_add _).trans (mul4 rfl rfl))|rfl)) ?_)|refine GOp.drawn (by rfl) (by rfl) (Nat.le_of_ble_eq_true (by rfl)) (by rfl)|refine GOp.via (by rfl) ?_|refine GWP.drawY mixed _ (by kernel_rfl) (by rfl) ?_|fail|(with_reducible first|refine stopO ?_|refine stopE ?_|refine stopD ?_|refine stopW ?_|refine stopG ?_|refine stopC ?_|refine stopR ?_)))
    (all_goals (first|omega|contradiction|(exfalso;have hmx : IntKind.i64.max = 9223372036854775807 := rfl;rw [hmx] at hx;simp [ByteArray.size_append,ByteArray.size] at hx hm;omega)|skip))
    ((refine GWP'.mk (GWP.loopB [0,1] (fun (b : Nat × Bool × List UInt8) => b.1 ≤ lst.length ∧ b.2.2 = d ++ anyQ lst ++ txtQ (lst.take b.1) ∧ (b.2.1 = false → b.2.2 = [])) (fun b => [(20,iV b.1)]) (fun b => [(0,sbV b.2.1 0 3 b.2.2),(3,bufX 5 b.2.2)]) 4 (fun b => lst.length - b.1) (0,u,d) ⟨Nat.zero_le _,by rw [hany];simp [txtQ],hul⟩ ?_);(conv => whnf);refine And.intro ?_ ?_));(focus (focus (refine KeptA.of [(1,3)] rfl rfl (by repeat' (first|exact trivial|refine And.intro rfl ?_)) rfl ?_ ?_;all_goals (repeat' (first|exact trivial|(refine And.intro ?_ ?_)|(refine Exists.intro _ (And.intro rfl ?_))|(refine RenO.opt ?_)|(refine RenO.toOpt ?_)|(refine RenO.cells ?_)|exact RenO.defs|exact RenL.nil|(refine RenL.cons ?_ ?_)|(first|(first|exact sbV_ren (.ptrL (Nat.zero_lt_succ _)) (List.Mem.head _)|exact buf_ren _|exact RenV.ptrL (Nat.zero_lt_succ _)|exact bufV_ren (List.Mem.head _)|exact RenV.eq (scI_eq (by omega)) (nameless_sc _))|(with_reducible exact RenV.sc)|exact RenV.gsN|exact RenV.gsZ|exact RenV.gsL (by decide)|exact RenV.slL (by decide)|((first|refine RenV.gsE (by (first|exact mhA|exact mhB|exact mhC|(simp;done))) ?_|refine RenV.eq (scI_eq ?_) (nameless_sc _));(first|rfl|omega|(simp only [List.length_append,List.length_cons,List.length_nil,List.length_map,List.length_take,List.length_drop] <;> omega)|(simp only <;> omega)|(simp <;> omega)))|exact RenV.undef)|(with_unfolding_all exact (rfl : (_ : VObj) = _)))))));rintro ⟨i,u1,dn⟩ ⟨g1,g2,g3⟩;simp only at g1 g2 g3 ⊢;by_cases hil : i < lst.length;(focus ((obtain ⟨p,hpi⟩ : ∃ p,lst[i]? = some p := ⟨_,List.getElem?_eq_getElem hil⟩);(have k1 := rnd i p u1 dn hpi g2 g3);(have htk := txtQ_take hpi);(obtain ⟨kp,np,tp,qp⟩ := p);(rw [cellsP] at k1);(repeat' (first|with_reducible refine And.intro ?_ ?_|((with_reducible intro hc);(try simp only [zA,zB,zC,zD,zE,zF,zG,zH,zI,zJ,zK,zL,zM,zN,zO,zP,zQ,zR,zS,zT,zU,zV,zW] at hc);(first|exact absurd rfl hc|exact absurd trivial hc|(exfalso;omega)|skip))|exact Is.mk rfl rfl|((conv => whnf);first|with_reducible refine And.intro ?_ ?_|with_reducible intro hx|exact Is.mk rfl rfl|(with_reducible first|apply Val.via|apply ValH.via)|refine ifB_intro ?_ ?_|refine xA (by omega) ?_|(refine xB ?_;intro kw hk1 hk2)|refine xC (by omega) ?_|refine xD ?_|refine xE (by omega) ?_|refine xF (by omega) ?_|refine xG ?_|refine xH ?_|refine xI (by omega) ?_|refine xJ (by omega) ?_|(with_reducible refine stopA ?_)|refine Exists.intro _ (And.intro (by (first|exact vat_of rfl rfl rfl|exact vat_of rfl hh0 rfl|exact vat_rowsK hpi rfl|exact vat_rowsK hpi ((Nat.zero_add _).trans (mul4 rfl rfl))|rfl)) ?_)|refine GOp.drawn (by rfl) (by rfl) (Nat.le_of_ble_eq_true (by rfl)) (by rfl)|refine GOp.via (by rfl) ?_|refine GWP.drawY mixed _ (by kernel_rfl) (by rfl) ?_|(refine GCall.mk ((k1 _ rfl rfl).mono ?_);rintro _ _ ⟨rfl,u2,hu2,rfl⟩)|(with_reducible first|refine stopO ?_|refine stopE ?_|refine stopD ?_|refine stopW ?_|refine stopG ?_|refine stopC ?_|refine stopR ?_))));(all_goals (first|omega|contradiction|(exfalso;have hmx : IntKind.i64.max = 9223372036854775807 := rfl;rw [hmx] at hx;simp [ByteArray.size_append,ByteArray.size] at hx hm;omega)|skip));(focus (refine Done'.mk ⟨(i + 1,u2,dn ++ txtP (.mk kp np tp qp)),⟨by simp only;omega,by rw [g2,htk];simp only [List.append_assoc],hu2⟩,?_,KeptA.of [(5,3)] rfl rfl (by repeat' (first|exact trivial|refine And.intro rfl ?_)) rfl ?_ ?_⟩;(first|omega|(simp only;omega));all_goals (repeat' (first|exact trivial|(refine And.intro ?_ ?_)|(refine Exists.intro _ (And.intro rfl ?_))|(refine RenO.opt ?_)|(refine RenO.toOpt ?_)|(refine RenO.cells ?_)|exact RenO.defs|exact RenL.nil|(refine RenL.cons ?_ ?_)|(first|(first|exact sbV_ren (.ptrL (Nat.zero_lt_succ _)) (List.Mem.head _)|exact buf_ren _|exact RenV.ptrL (Nat.zero_lt_succ _)|exact bufV_ren (List.Mem.head _)|exact RenV.eq (scI_eq (by omega)) (nameless_sc _))|(with_reducible exact RenV.sc)|exact RenV.gsN|exact RenV.gsZ|exact RenV.gsL (by decide)|exact RenV.slL (by decide)|((first|refine RenV.gsE (by (first|exact mhA|exact mhB|exact mhC|(simp;done))) ?_|refine RenV.eq (scI_eq ?_) (nameless_sc _));(first|rfl|omega|(simp only [List.length_append,List.length_cons,List.length_nil,List.length_map,List.length_take,List.length_drop] <;> omega)|(simp only <;> omega)|(simp <;> omega)))|exact RenV.undef)|(with_unfolding_all exact (rfl : (_ : VObj) = _))))))));(have hie : i = lst.length := by omega);(rw [hie,List.take_length] at g2);(have hte : dn = d ++ txtC lst := by rw [g2,List.append_assoc];rfl);(rw [← hte]);(repeat' (first|with_reducible refine And.intro ?_ ?_|((with_reducible intro hc);(try simp only [zA,zB,zC,zD,zE,zF,zG,zH,zI,zJ,zK,zL,zM,zN,zO,zP,zQ,zR,zS,zT,zU,zV,zW] at hc);(first|exact absurd rfl hc|exact absurd trivial hc|(exfalso;omega)|skip))|exact Is.mk rfl rfl|((conv => whnf);first|with_reducible refine And.intro ?_ ?_|with_reducible intro hx|exact Is.mk rfl rfl|(with_reducible first|apply Val.via|apply ValH.via)|refine ifB_intro ?_ ?_|refine xA (by omega) ?_|(refine xB ?_;intro kw hk1 hk2)|refine xC (by omega) ?_|refine xD ?_|refine xE (by omega) ?_|refine xF (by omega) ?_|refine xG ?_|refine xH ?_|refine xI (by omega) ?_|refine xJ (by omega) ?_|(with_reducible refine stopA ?_)|refine Exists.intro _ (And.intro (by (first|exact vat_of rfl rfl rfl|exact vat_of rfl hh0 rfl|exact vat_rowsK hpi rfl|exact vat_rowsK hpi ((Nat.zero_add _).trans (mul4 rfl rfl))|rfl)) ?_)|refine GOp.drawn (by rfl) (by rfl) (Nat.le_of_ble_eq_true (by rfl)) (by rfl)|refine GOp.via (by rfl) ?_|refine GWP.drawY mixed _ (by kernel_rfl) (by rfl) ?_|fail|(with_reducible first|refine stopO ?_|refine stopE ?_|refine stopD ?_|refine stopW ?_|refine stopG ?_|refine stopC ?_|refine stopR ?_))));(all_goals (first|omega|contradiction|(exfalso;have hmx : IntKind.i64.max = 9223372036854775807 := rfl;rw [hmx] at hx;simp [ByteArray.size_append,ByteArray.size] at hx hm;omega)|skip));exact Done'.mk ⟨rfl,u1,3,g3,rfl,rfl,by simp⟩
mutual
theorem wrP : ∀ p : SPart, PW p
  | .mk k n t l => part_step k n t l (comp_step l (wrQ l))
theorem wrQ : ∀ l : List SPart, ∀ p ∈ l, PW p
  | [], p, h => by cases h
  | a :: r, p, h => by
    rcases List.mem_cons.1 h with e | h
    · rw [e]; exact wrP a
    · exact wrQ r p h
end
theorem cwrite_call (l : List SPart) : CW l := comp_step l (wrQ l)
end Go.Proofs.YthjfobafdclafaaDoor

