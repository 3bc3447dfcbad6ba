/- The reckoner, where some calls are known by contracts. -/
import Derived.Test.YtmmjgbdihgdekaaDoorVd
namespace Go.Proofs.YtmmjgbdihgdekaaDoor
open Go Go.RowKit
set_option linter.unusedSimpArgs false
set_option linter.unusedVariables false
/-- States are looked at as they are made, so that nothing is put off. -/
def setF {β : Type} : List VV → Nat → VV → (List VV → β) → β
  | [], _, _, K => K []
  | _ :: r, 0, v, K => K (v :: r)
  | a :: r, n + 1, v, K => setF r n v fun r' => K (a :: r')
theorem setF_eq {β : Type} : ∀ (l : List VV) (n : Nat) (v : VV) (K : List VV → β), setF l n v K = K (l.set n v)
  | [], _, _, _ => rfl
  | _ :: _, 0, _, _ => rfl
  | a :: r, n + 1, v, K => by simp only [setF, setF_eq r n v, List.set_cons_succ]
def forceB {β : Type} (v : VV) (K : VV → β) : β := match v with
  | .sc (.int k n) => K (.sc (.int k n))
  | .sc (.bool true) => K (.sc (.bool true))
  | .sc (.bool false) => K (.sc (.bool false))
  | .sc (.string s) => K (.sc (.string s))
  | .sc x => K (.sc x)
  | .ptr b q => K (.ptr b q)
  | .sl b q n c z => K (.sl b q n c z)
  | .gs b n z => K (.gs b n z)
  | .ro n vs => K (.ro n vs)
  | .rp vs q => K (.rp vs q)
  | .fn f a b => K (.fn f a b)
  | .yl l => K (.yl l)
  | .ag vs => K (.ag vs)
  | .tp vs => K (.tp vs)
  | .ifc t x => K (.ifc t x)
  | .junk => K .junk
theorem forceB_eq {β : Type} (v : VV) (K : VV → β) : forceB v K = K v := by
  unfold forceB
  split <;> rfl
def forceL {β : Type} : List VV → (List VV → β) → β
  | [], K => K []
  | v :: r, K => forceB v fun v' => forceL r fun r' => K (v' :: r')
theorem forceL_eq {β : Type} : ∀ (l : List VV) (K : List VV → β), forceL l K = K l
  | [], _ => rfl
  | v :: r, K => by simp only [forceL, forceB_eq, forceL_eq r]
def forceO {β : Type} : List (Nat × VObj) → (List (Nat × VObj) → β) → β
  | [], K => K []
  | (k, .cells rw vs) :: r, K => forceO r fun r' => K ((k, .cells rw vs) :: r')
  | (k, x) :: r, K => forceO r fun r' => K ((k, x) :: r')
theorem forceO_eq {β : Type} : ∀ (l : List (Nat × VObj)) (K : List (Nat × VObj) → β), forceO l K = K l
  | [], _ => rfl
  | (k, x) :: r, K => by
    cases x <;> simp only [forceO, forceO_eq r]
def putF {β : Type} (ts : List VV) (dst : Option Tmp) (v : VV) (K : List VV → β) : β := match dst with
  | some d => forceB v fun v' => setF ts d v' K
  | none => K ts
theorem putF_eq {β : Type} (s : VSt) (dst : Option Tmp) (v : VV) (H : Heap) (K : VSt → β) : putF s.tmps dst v (fun ts => K ⟨ts, H, s.marks⟩) = K (s.put dst v H) := by
  cases dst with
  | none => rfl
  | some d => simp only [putF, forceB_eq, setF_eq, VSt.put]
/-- Numbers, the quick way. -/
def fwrap (k : IntKind) (x : Int) : Int := match k with
  | .u32 => x % 4294967296
  | .u64 => x % 18446744073709551616
  | .u8 => x % 256
  | k => k.wrap x
theorem fwrap_eq (k : IntKind) (x : Int) : fwrap k x = k.wrap x := by
  cases k <;> first | rfl | exact (wrap_u32 x).symm | exact (wrap_u64 x).symm | exact (wrap_u8 x).symm
def fbit (op : BinOp) (k : IntKind) (a b : Int) : Int := match k, a, b with
  | .u32, .ofNat a, .ofNat b => match op with
    | .and => .ofNat (Nat.land a b % 4294967296)
    | .or => .ofNat (Nat.lor a b % 4294967296)
    | .xor => .ofNat (Nat.xor a b % 4294967296)
    | _ => bitZ0 op .u32 (.ofNat a) (.ofNat b)
  | .u64, .ofNat a, .ofNat b => match op with
    | .and => .ofNat (Nat.land a b % 18446744073709551616)
    | .or => .ofNat (Nat.lor a b % 18446744073709551616)
    | .xor => .ofNat (Nat.xor a b % 18446744073709551616)
    | _ => bitZ0 op .u64 (.ofNat a) (.ofNat b)
  | k, a, b => bitZ0 op k a b
theorem ofInt_nat' (n a : Nat) : BitVec.ofInt n (Int.ofNat a) = BitVec.ofNat n a := by
  apply BitVec.eq_of_toNat_eq
  simp [BitVec.toNat_ofInt, BitVec.toNat_ofNat]
theorem fbit_eq (op : BinOp) (k : IntKind) (a b : Int) : fbit op k a b = bitZ op k a b := by
  rw [bitZ_def]
  unfold fbit
  split
  · rename_i a b
    have e : IntKind.u32.bits = 32 := rfl
    split
    · show _ = IntKind.u32.wrap _
      rw [e, ofInt_nat', ofInt_nat', BitVec.toNat_and, BitVec.toNat_ofNat, BitVec.toNat_ofNat, ← Nat.and_mod_two_pow, wrap_u32]
      show (((a &&& b) % 4294967296 : Nat) : Int) = (((a &&& b) % 2 ^ 32 : Nat) : Int) % 4294967296
      omega
    · show _ = IntKind.u32.wrap _
      rw [e, ofInt_nat', ofInt_nat', BitVec.toNat_or, BitVec.toNat_ofNat, BitVec.toNat_ofNat, ← Nat.or_mod_two_pow, wrap_u32]
      show (((a ||| b) % 4294967296 : Nat) : Int) = (((a ||| b) % 2 ^ 32 : Nat) : Int) % 4294967296
      omega
    · show _ = IntKind.u32.wrap _
      rw [e, ofInt_nat', ofInt_nat', BitVec.toNat_xor, BitVec.toNat_ofNat, BitVec.toNat_ofNat, ← Nat.xor_mod_two_pow, wrap_u32]
      show (((a ^^^ b) % 4294967296 : Nat) : Int) = (((a ^^^ b) % 2 ^ 32 : Nat) : Int) % 4294967296
      omega
    · rfl
  · rename_i a b
    have e : IntKind.u64.bits = 64 := rfl
    split
    · show _ = IntKind.u64.wrap _
      rw [e, ofInt_nat', ofInt_nat', BitVec.toNat_and, BitVec.toNat_ofNat, BitVec.toNat_ofNat, ← Nat.and_mod_two_pow, wrap_u64]
      show (((a &&& b) % 18446744073709551616 : Nat) : Int) = (((a &&& b) % 2 ^ 64 : Nat) : Int) % 18446744073709551616
      omega
    · show _ = IntKind.u64.wrap _
      rw [e, ofInt_nat', ofInt_nat', BitVec.toNat_or, BitVec.toNat_ofNat, BitVec.toNat_ofNat, ← Nat.or_mod_two_pow, wrap_u64]
      show (((a ||| b) % 18446744073709551616 : Nat) : Int) = (((a ||| b) % 2 ^ 64 : Nat) : Int) % 18446744073709551616
      omega
    · show _ = IntKind.u64.wrap _
      rw [e, ofInt_nat', ofInt_nat', BitVec.toNat_xor, BitVec.toNat_ofNat, BitVec.toNat_ofNat, ← Nat.xor_mod_two_pow, wrap_u64]
      show (((a ^^^ b) % 18446744073709551616 : Nat) : Int) = (((a ^^^ b) % 2 ^ 64 : Nat) : Int) % 18446744073709551616
      omega
    · rfl
  · rfl
def fbin (op : BinOp) (k k' : IntKind) (a b : Int) : Option Value := match op with
  | .shl => match leZ 0 b with
    | true => some (.int k (fwrap k (a * 2 ^ (min b.toNat k.bits))))
    | false => none
  | .shr => match leZ 0 b with
    | true => some (.int k (a.fdiv (2 ^ (min b.toNat k.bits))))
    | false => none
  | _ => match kindB k k' with
    | true => match op with
      | .add => some (.int k (fwrap k (a + b)))
      | .sub => some (.int k (fwrap k (a - b)))
      | .mul => some (.int k (fwrap k (a * b)))
      | .eql => some (.bool (eqZ a b))
      | .neq => some (.bool (!(eqZ a b)))
      | .lss => some (.bool (ltZ a b))
      | .leq => some (.bool (leZ a b))
      | .gtr => some (.bool (ltZ b a))
      | .geq => some (.bool (leZ b a))
      | .and => some (.int k (fbit .and k a b))
      | .or => some (.int k (fbit .or k a b))
      | .xor => some (.int k (fbit .xor k a b))
      | _ => none
    | false => none
/-- What is quick. -/
def vfast (o : Oper) (ts : List VV) : Option VV := match o.op with
  | .binOp op t x y _ => match veval ts x, veval ts y with
    | .sc (.int k a), .sc (.int k' b) => match fbin op k k' a b with
      | some v => some (.sc v)
      | none => none
    | _, _ => none
  | _ => none
theorem vfast_sound {P : Program} {o : Oper} {ts : List VV} {H : Heap} {v : VV} (h : vfast o ts = some v) : VOne P o ts H (fun x K => x = v ∧ K = H) := by
  refine wone_sound ?_
  unfold vfast at h
  split at h
  · rename_i op t x y p ho
    split at h
    · rename_i k a k' b hx hy
      split at h
      · rename_i u hu
        injection h with h
        subst h
        unfold wone
        rw [ho]
        simp only [hx, hy]
        unfold fbin at hu
        split at hu
        · split at hu
          · rename_i hb
            injection hu with hu
            subst hu
            rw [leZ_eq] at hb
            refine ⟨by simpa using hb, ?_⟩
            rw [shlZ_def, fwrap_eq]; exact ⟨rfl, trivial⟩
          · cases hu
        · split at hu
          · rename_i hb
            injection hu with hu
            subst hu
            rw [leZ_eq] at hb
            refine ⟨by simpa using hb, ?_⟩
            rw [shrZ_def]; exact ⟨rfl, trivial⟩
          · cases hu
        · rename_i h1 h2
          split at hu
          · rename_i hk
            split at hu
            · injection hu with hu; subst hu
              simp only [wshift, hk, wbin]
              exact .wrap (by rw [fwrap_eq]; exact ⟨rfl, trivial⟩)
            · injection hu with hu; subst hu
              simp only [wshift, hk, wbin]
              exact .wrap (by rw [fwrap_eq]; exact ⟨rfl, trivial⟩)
            · injection hu with hu; subst hu
              simp only [wshift, hk, wbin]
              exact .wrap (by rw [fwrap_eq]; exact ⟨rfl, trivial⟩)
            all_goals first
              | (injection hu with hu; subst hu; simp [wshift, hk, wbin, fbit_eq]; done)
              | (cases hu; done)
          · cases hu
      · cases h
    · cases h
  · cases h
def vseqF (P : Program) (call round : CallF) (ops : Array Oper) : List Oper → VSt → Option VSt
  | [], s => some s
  | o :: r, s => match vwanted ops o s.tmps with
    | none => none
    | some false => putF s.tmps o.dst (.tp []) fun ts => vseqF P call round ops r ⟨ts, s.heap, s.marks⟩
    | some true => match vfast o s.tmps with
      | some v => putF s.tmps o.dst v fun ts => vseqF P call round ops r ⟨ts, s.heap, s.marks⟩
      | none => match vevent P call round o s.tmps s.heap with
        | some (v, ⟨O, nx⟩) => putF s.tmps o.dst v fun ts => forceO O fun O' => vseqF P call round ops r ⟨ts, ⟨O', nx⟩, s.marks⟩
        | none => none
theorem vseqF_sound {P : Program} {call round : CallF} (hc : CallOK P call) (hr : RoundOK P round) {ops : Array Oper} : ∀ (l : List Oper) (k : Nat) {s s' : VSt}, ops.toList.drop k = l → vseqF P call round ops l s = some s' → VOps P ops ((List.range ops.size).drop k) (fun t => t = s') s
  | [], k, s, s', hk, h => by
    simp [vseqF] at h
    subst h
    have : ops.size ≤ k := by have := congrArg List.length hk; simp at this; omega
    rw [List.drop_eq_nil_of_le (by simpa using this)]
    exact VOps.nil rfl
  | o :: r, k, s, s', hk, h => by
    have hok : ops.toList[k]? = some o := by
      have := congrArg (fun l => l[0]?) hk
      simpa using this
    have hlt : k < ops.size := by have := (List.getElem?_eq_some_iff.1 hok).1; simpa using this
    have hr2 : ops.toList.drop (k + 1) = r := by rw [← List.drop_drop, hk]; rfl
    have hcons : (List.range ops.size).drop k = k :: (List.range ops.size).drop (k + 1) := by
      rw [List.drop_eq_getElem_cons (by simpa using hlt)]
      simp
    rw [hcons]
    simp only [vseqF] at h
    split at h
    · simp at h
    · rename_i hw
      rw [putF_eq s o.dst (.tp []) s.heap (fun s' => vseqF P call round ops r s')] at h
      exact VOps.pass (by simpa using hok) hw (vseqF_sound hc hr r (k + 1) hr2 h)
    · rename_i hw
      split at h
      · rename_i v hv
        rw [putF_eq s o.dst v s.heap (fun s' => vseqF P call round ops r s')] at h
        refine VOps.step (by simpa using hok) hw ((vfast_sound hv).mono ?_)
        rintro x K ⟨rfl, rfl⟩
        exact vseqF_sound hc hr r (k + 1) hr2 h
      · split at h
        · rename_i v O nx hv
          simp only [forceO_eq] at h
          rw [putF_eq s o.dst v ⟨O, nx⟩ (fun s' => vseqF P call round ops r s')] at h
          refine VOps.step (by simpa using hok) hw ((vevent_sound hc hr hv).mono ?_)
          rintro x K ⟨rfl, rfl⟩
          exact vseqF_sound hc hr r (k + 1) hr2 h
        · simp at h
def vcallO (orc : CallF) (P : Program) (ev : CodeF) : CallF := fun f args H => match orc f args H with
  | some r => some r
  | none => vcallW P ev f args H
def vcodeO (orc : CallF) (P : Program) : Nat → CodeF
  | 0, _, _, _ => none
  | n + 1, r, c, s => match c with
    | .skip => some (.normal, s)
    | .label _ => some (.normal, s)
    | .region _ ops false => match vseqF P (vcallO orc P (vcodeO orc P n)) (vroundW P (vcodeO orc P n)) ops ops.toList s with
      | some s' => some (.normal, s')
      | none => none
    | .region _ ops true => match vdraw P (vcallO orc P (vcodeO orc P n)) (vroundW P (vcodeO orc P n)) ops s with
      | some s' => some (.normal, s')
      | none => none
    | .seq x y => match vcodeO orc P n r x s with
      | some (.normal, s') => vcodeO orc P n r y s'
      | z => z
    | .cond c x y => match veval s.tmps c with
      | .sc (.bool true) => vcodeO orc P n r x s
      | .sc (.bool false) => vcodeO orc P n r y s
      | _ => none
    | .block id c => match vcodeO orc P n r c s with
      | some (.exit j, s') => match Nat.beq j id with
        | true => some (.normal, s')
        | false => some (.exit j, s')
      | z => z
    | .loop c => vloop (vcodeO orc P n r c) n s
    | .exit i => some (.exit i, s)
    | .ret => some (.ret, s)
    | .rangeFunc g ps asg bd => vrange P (vcallO orc P (vcodeO orc P n)) r g ps asg bd s
    | _ => none


section
variable {P : Program} {ev : CodeF} {orc : CallF}
theorem vcallO_ok (ho : CallOK P orc) (h : CodeOK P ev) : CallOK P (vcallO orc P ev) := by
  intro f args H v H' hc
  unfold vcallO at hc
  split at hc
  · rename_i r hr
    injection hc with hc
    subst hc
    exact ho _ _ _ _ _ hr
  · exact vcallW_ok h _ _ _ _ _ hc
theorem vcodeO_ok (ho : CallOK P orc) (hm : P.follows .mixedOrders = true) : ∀ n, CodeOK P (vcodeO orc P n)
  | 0 => fun r c s e s' h => by simp [vcodeO] at h
  | n + 1 => by
    have ih := vcodeO_ok ho hm n
    have hc := vcallO_ok ho ih
    have hr := vroundW_ok ih
    intro r c s e s' h
    cases c with
    | skip => simp [vcodeO] at h; obtain ⟨rfl, rfl⟩ := h; exact VWP.skip ⟨rfl, rfl⟩
    | label l => simp [vcodeO] at h; obtain ⟨rfl, rfl⟩ := h; exact VWP.label ⟨rfl, rfl⟩
    | region id ops draw =>
      cases draw with
      | false =>
        simp only [vcodeO] at h
        split at h
        · rename_i s1 h1
          simp at h
          obtain ⟨rfl, rfl⟩ := h
          have := vseqF_sound hc hr ops.toList 0 rfl h1
          exact VWP.region (this.mono fun t ht => ⟨rfl, ht⟩)
        · simp at h
      | true =>
        simp only [vcodeO] at h
        split at h
        · rename_i s1 h1
          simp at h
          obtain ⟨rfl, rfl⟩ := h
          exact vdraw_sound hm hc hr h1
        · simp at h
    | seq x y =>
      simp only [vcodeO] at h
      split at h
      · rename_i s1 h1
        refine VWP.seq ((ih _ _ _ _ _ h1).mono ?_)
        rintro e' t ⟨rfl, rfl⟩
        exact ih _ _ _ _ _ h
      · rename_i hne
        refine VWP.seq ((ih _ _ _ _ _ h).mono ?_)
        rintro e' t ⟨rfl, rfl⟩
        cases e' with
        | normal => exact absurd h (hne _)
        | _ => exact ⟨rfl, rfl⟩
    | cond c x y =>
      simp only [vcodeO] at h
      split at h
      · rename_i hv
        exact VWP.cond hv (ih _ _ _ _ _ h)
      · rename_i hv
        exact VWP.cond hv (ih _ _ _ _ _ h)
      · simp at h
    | block id c =>
      simp only [vcodeO] at h
      split at h
      · rename_i j s1 h1
        refine VWP.block ((ih _ _ _ _ _ h1).mono ?_)
        rintro e' t ⟨rfl, rfl⟩
        simp only [blockQ]
        split at h
        · rename_i hj
          simp at h
          obtain ⟨rfl, rfl⟩ := h
          rw [if_pos (Nat.eq_of_beq_eq_true hj)]
          exact ⟨rfl, rfl⟩
        · rename_i hj
          simp at h
          obtain ⟨rfl, rfl⟩ := h
          rw [if_neg (fun e => by subst e; rw [Nat.beq_refl] at hj; cases hj)]
          exact ⟨rfl, rfl⟩
      · rename_i hne
        refine VWP.block ((ih _ _ _ _ _ h).mono ?_)
        rintro e' t ⟨rfl, rfl⟩
        cases e' with
        | exit j => exact absurd h (hne _ _)
        | _ => exact ⟨rfl, rfl⟩
    | loop c =>
      simp only [vcodeO] at h
      exact VWP.rounds n (vloop_sound (fun s e s' h => ih _ _ _ _ _ h) n s s' e h)
    | exit i => simp [vcodeO] at h; obtain ⟨rfl, rfl⟩ := h; exact VWP.exit ⟨rfl, rfl⟩
    | ret => simp [vcodeO] at h; obtain ⟨rfl, rfl⟩ := h; exact VWP.ret ⟨rfl, rfl⟩
    | rangeFunc g ps asg bd =>
      simp only [vcodeO] at h
      exact vrange_sound hc h
    | scope c => simp [vcodeO] at h
    | goto l => simp [vcodeO] at h
    | refuse w => simp [vcodeO] at h
end
/-- A call, reckoned. -/
theorem VCall.runO {P : Program} {orc : CallF} (ho : CallOK P orc) (hm : P.follows .mixedOrders = true) (n : Nat) {f : FuncId} {args : List VV} {H H' : Heap} {v : VV} (h : vcallO orc P (vcodeO orc P n) f args H = some (v, H')) : VCall P f args H (fun x K => x = v ∧ K = H') := vcallO_ok ho (vcodeO_ok ho hm n) _ _ _ _ _ h
/-- A closed run with arguments. -/
theorem VCall.closedO {P : Program} {orc : CallF} (ho : CallOK P orc) {f : FuncId} {args : List VV} {H : Heap} (hm : P.follows .mixedOrders = true) (n : Nat) {u : Value} (ha : ∀ v ∈ args, Nameless v) (h : isV (vcallO orc P (vcodeO orc P n) f args ⟨[], 0⟩) (.sc u) = true) : VCall P f args H (fun v K => v = .sc u ∧ K = H) := by
  unfold isV at h
  split at h
  · rename_i v K hr
    have := veq_eq h
    subst this
    refine (VCall.apart (Q := fun x K' => x = .sc u ∧ K' = K) ha (VCall.runO ho hm n hr) (fun v K e => e.1 ▸ exact_sc u)).mono ?_
    rintro v K' ⟨⟨_, e, _⟩, e2⟩
    exact ⟨e, e2⟩
  · simp at h
/-- Clone of nothing. -/
def orcC : CallF := fun f args H => match Nat.beq f 70, args with
  | true, [.ro 0 []] => some (.ro 0 [], H)
  | _, _ => none
theorem orcC_ok : CallOK Tryd.prog orcC := by
  intro f args H v H' h
  unfold orcC at h
  split at h
  · rename_i hf
    have hf := Nat.eq_of_beq_eq_true hf
    simp at h
    obtain ⟨rfl, rfl⟩ := h
    rw [hf]
    exact clone_call [] H (by simp)
  · cases h
end Go.Proofs.YtmmjgbdihgdekaaDoor
