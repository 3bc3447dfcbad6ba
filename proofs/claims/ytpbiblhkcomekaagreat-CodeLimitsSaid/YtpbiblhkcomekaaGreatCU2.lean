import Derived.Test.YtpbiblhkcomekaaGreatCG4
import Derived.Test.YtpbiblhkcomekaaGreatCH1
import Derived.Lib.ItoaNum
import Derived.Test.YtpbiblhkcomekaaGreatCU1
import Derived.Test.YtpbiblhkcomekaaGreatCH6
/- TreeBack, in plain words: a tree's signs; which trees a text may have. -/
namespace Go.Proofs.YtpbiblhkcomekaaGreat
open Go Go.RowKit
set_option linter.unusedSimpArgs false
set_option linter.unusedVariables false
set_option maxRecDepth 20000
def wdG (x : List UInt8) : Sg := ⟨2, x, 0⟩
def mkG (x : List UInt8) : Sg := ⟨5, x, 0⟩
def nmG (x : List UInt8) : Sg := ⟨1, x, 0⟩
def txG (x : List UInt8) : Sg := ⟨4, x, 0⟩
def nuG (v : Nat) : Sg := ⟨3, [], v⟩
/-- An operator's sign. -/
def opG (x : List UInt8) : Sg := if wordsL.contains x then wdG x else mkG x
/-- An operator's level. -/
def lvO (x : List UInt8) : Nat := if (opL 0).contains x then 0 else if (opL 1).contains x then 1 else if (opL 2).contains x then 2 else if (opL 3).contains x then 3 else 4
def rankN : Nd → Nat
  | .mk op tx _ _ => if op = 13 then lvO tx else if op = 14 then 5 else 6
/-- With commas between. -/
def rowG : List (List Sg) → List Sg
  | [] => []
  | [x] => x
  | x :: y :: r => x ++ mkG [44] :: rowG (y :: r)
def brG (b : Bool) (l : List Sg) : List Sg := if b then mkG [40] :: (l ++ [mkG [41]]) else l
def raO (i : Nat) : Nat := if i = 2 then 3 else i
def bldG (op : Nat) (tx : List UInt8) (nm : Nat) (rs : List Nat) (L : List (List Sg)) : List Sg :=
  match op with
  | 0 => L.flatten
  | 1 => wdG [111, 110] :: nmG tx :: mkG [40] :: (rowG L.dropLast ++ mkG [41] :: L.getLastD [])
  | 2 => mkG [123] :: (L.flatten ++ [mkG [125]])
  | 3 => nmG tx :: mkG [61] :: (L.getD 0 [] ++ [mkG [59]])
  | 4 => L.getD 0 [] ++ [mkG [59]]
  | 5 => wdG [105, 102] :: (L.getD 0 [] ++ (L.getD 1 [] ++ (if L.length = 3 then wdG [101, 108, 115, 101] :: L.getD 2 [] else [])))
  | 6 => wdG [119, 104, 105, 108, 101] :: (L.getD 0 [] ++ L.getD 1 [])
  | 7 => [wdG [115, 116, 111, 112], mkG [59]]
  | 8 => [nuG nm]
  | 9 => [txG tx]
  | 10 => [wdG [110, 105, 108]]
  | 11 => [nmG tx]
  | 12 => nmG tx :: mkG [40] :: (rowG L ++ [mkG [41]])
  | 13 => brG (decide (rs.getD 0 0 < raO (lvO tx))) (L.getD 0 []) ++ opG tx :: brG (decide (rs.getD 1 0 < lvO tx + 1)) (L.getD 1 [])
  | _ => opG tx :: brG (decide (rs.getD 0 0 < 5)) (L.getD 0 [])
mutual
/-- A node's signs. -/
def sgN : Nd → List Sg
  | .mk op tx nm ks => bldG op tx nm (ks.map rankN) (sgM ks)
def sgM : List Nd → List (List Sg)
  | [] => []
  | k :: r => sgN k :: sgM r
end
theorem sgM_map : ∀ l : List Nd, sgM l = l.map sgN
  | [] => by rw [sgM]; rfl
  | k :: r => by rw [sgM, sgM_map r]; rfl
theorem sgN_mk (op : Nat) (tx : List UInt8) (nm : Nat) (ks : List Nd) : sgN (.mk op tx nm ks) = bldG op tx nm (ks.map rankN) (ks.map sgN) := by rw [sgN, sgM_map]
def sgI (r : Nat) (n : Nd) : List Sg := brG (decide (rankN n < r)) (sgN n)
def ownS (g : Sg) : List UInt8 := if g.kind = 3 then Lib.decDigits g.num else if g.kind = 4 then quoteB g.text else g.text
/-- A sign that is read back, ahead of a blank. -/
def LexOk (g : Sg) : Prop := (∀ r, lexS (ownS g ++ 32 :: r) = ⟨g, (ownS g).length, 0⟩) ∧ ∃ c x, ownS g = c :: x ∧ blkB c = false ∧ c.toNat ≠ 35 ∧ x.length ≤ 5000
/-- A node one deeper, in brackets, if it is looser than it may be. -/
def dpI (d r : Nat) (n : Nd) (dn : Nat) : Prop := (r ≤ rankN n ∧ dn = d) ∨ (rankN n < r ∧ d < 16 ∧ dn = d + 1)
/-- Expressions at a depth. -/
inductive FitE : Nat → Nd → Prop where
  | num {d v : Nat} (h : v ≤ 2147483648) : FitE d (.mk 8 [] v [])
  | text {d : Nat} {x : List UInt8} (h : LexOk (txG x)) (hl : x.length ≤ 1200) : FitE d (.mk 9 x 0 [])
  | nil {d : Nat} : FitE d (.mk 10 [] 0 [])
  | var {d : Nat} {x : List UInt8} (h : LexOk (nmG x)) : FitE d (.mk 11 x 0 [])
  | call {d : Nat} {x : List UInt8} {ks : List Nd} (h : LexOk (nmG x)) (hd : ∀ k ∈ ks, d < 16) (hk : ∀ k ∈ ks, FitE (d + 1) k) : FitE d (.mk 12 x 0 ks)
  | bin {d da db : Nat} {x : List UInt8} {a b : Nd} (hx : x ∈ opL (lvO x)) (ha : dpI d (raO (lvO x)) a da) (fa : FitE da a) (hb : dpI d (lvO x + 1) b db) (fb : FitE db b) : FitE d (.mk 13 x 0 [a, b])
  | un {d dk : Nat} {x : List UInt8} {k : Nd} (hx : x = [110, 111, 116] ∨ x = [45]) (hd : d < 16) (hk : dpI (d + 1) 5 k dk) (fk : FitE dk k) : FitE d (.mk 14 x 0 [k])
/-- Statements (0) and blocks (1) at a depth. -/
inductive FitS : Nat → Nat → Nd → Prop where
  | set {d : Nat} {x : List UInt8} {n : Nd} (h : LexOk (nmG x)) (hn : FitE d n) : FitS 0 d (.mk 3 x 0 [n])
  | do_ {d : Nat} {n : Nd} (hn : FitE d n) : FitS 0 d (.mk 4 [] 0 [n])
  | if2 {d : Nat} {n b : Nd} (hn : FitE d n) (hb : FitS 1 d b) : FitS 0 d (.mk 5 [] 0 [n, b])
  | if3 {d : Nat} {n b c : Nd} (hn : FitE d n) (hb : FitS 1 d b) (hc : FitS 1 d c) : FitS 0 d (.mk 5 [] 0 [n, b, c])
  | while_ {d : Nat} {n b : Nd} (hn : FitE d n) (hb : FitS 1 d b) : FitS 0 d (.mk 6 [] 0 [n, b])
  | stop {d : Nat} : FitS 0 d (.mk 7 [] 0 [])
  | block {d : Nat} {ks : List Nd} (hd : d < 16) (hk : ∀ k ∈ ks, FitS 0 (d + 1) k) : FitS 1 d (.mk 2 [] 0 ks)
/-- Handlers. -/
def FitO (n : Nd) : Prop := ∃ (x : List UInt8) (ys : List (List UInt8)) (b : Nd), n = .mk 1 x 0 (ys.map (fun y => .mk 11 y 0 []) ++ [b]) ∧ LexOk (nmG x) ∧ (∀ y ∈ ys, LexOk (nmG y)) ∧ FitS 1 0 b
theorem dpI_mono {d r d' : Nat} {n : Nd} {dn : Nat} (h : dpI d r n dn) (hd : d' ≤ d) : ∃ dn', dpI d' r n dn' ∧ dn' ≤ dn := by
  rcases h with ⟨h1, rfl⟩ | ⟨h1, h2, rfl⟩
  · exact ⟨d', .inl ⟨h1, rfl⟩, hd⟩
  · exact ⟨d' + 1, .inr ⟨h1, by omega, rfl⟩, by omega⟩
/-- What fits, fits further up. -/
theorem FitE.mono {d : Nat} {n : Nd} (h : FitE d n) : ∀ {d' : Nat}, d' ≤ d → FitE d' n := by
  induction h with
  | num h => exact fun _ => .num h
  | text h hl => exact fun _ => .text h hl
  | nil => exact fun _ => .nil
  | var h => exact fun _ => .var h
  | call h h16 hk ih => exact fun hd => .call h (fun k hm => by have := h16 k hm; omega) fun k hm => ih k hm (by omega)
  | bin hx ha fa hb fb iha ihb =>
    intro d' hd
    obtain ⟨da', a1, a2⟩ := dpI_mono ha hd
    obtain ⟨db', b1, b2⟩ := dpI_mono hb hd
    exact .bin hx a1 (iha a2) b1 (ihb b2)
  | un hx hd hk fk ih =>
    intro d' hd'
    obtain ⟨dk', a1, a2⟩ := dpI_mono hk (show d' + 1 ≤ _ + 1 by omega)
    exact .un hx (by omega) a1 (ih a2)
end Go.Proofs.YtpbiblhkcomekaaGreat

/- TreeBack, in plain words: what a parser reads fits. -/
namespace Go.Proofs.YtpbiblhkcomekaaGreat
open Go Go.RowKit
set_option linter.unusedSimpArgs false
set_option linter.unusedVariables false
set_option maxRecDepth 20000
def GoodL (l : List (Sg × Nat)) : Prop := ∀ p ∈ l, (p.1.kind = 1 → LexOk (nmG p.1.text)) ∧ (p.1.kind = 4 → LexOk (txG p.1.text) ∧ p.1.text.length ≤ 1200) ∧ (p.1.kind = 3 → p.1.num ≤ 2147483648)
theorem GoodL.suf {l l' : List (Sg × Nat)} (h : GoodL l) (hs : l' <:+ l) : GoodL l' := fun p hp => h p (hs.subset hp)
theorem isS_yes {x : List UInt8} {s : PSt} (h : (isS x s).1 = true) : (isS x s).2.l <:+ s.l ∧ (isS x s).2.l.length + 1 = s.l.length ∧ s.e = 0 ∧ (isS x s).2.e = 0 ∧ (isS x s).2.d = s.d := by
  obtain ⟨l, d, e⟩ := s
  cases l with
  | nil => simp [isS] at h
  | cons q r =>
    obtain ⟨g, a⟩ := q
    unfold isS at h ⊢
    simp only at h ⊢
    split at h
    · rename_i hc
      rw [if_pos hc]
      exact ⟨List.suffix_cons _ _, rfl, hc.1, hc.1, rfl⟩
    · cases h
theorem mustS_yes {x : List UInt8} {s : PSt} (h : (mustS x s).e = 0) : (isS x s).1 = true ∧ mustS x s = (isS x s).2 ∧ (mustS x s).l <:+ s.l ∧ (mustS x s).l.length + 1 = s.l.length ∧ s.e = 0 ∧ (mustS x s).d = s.d := by
  unfold mustS at h ⊢
  cases hi : (isS x s).1 with
  | true =>
    rw [if_pos rfl]
    obtain ⟨h1, h2, h3, h4, h5⟩ := isS_yes hi
    exact ⟨rfl, rfl, h1, h2, h3, h5⟩
  | false =>
    rw [hi, if_neg (by decide)] at h
    unfold failP at h
    split at h
    · cases h
    · rename_i hne; exact absurd h hne
theorem takeS_yes {k : Nat} {s s' : PSt} {g : Sg} {a : Nat} (h : takeS k s = (some (g, a), s')) : s.l = (g, a) :: s'.l ∧ g.kind = k ∧ s.e = 0 ∧ s'.e = 0 ∧ s'.d = s.d := by
  obtain ⟨l, d, e⟩ := s
  cases l with
  | nil => cases h
  | cons q r =>
    obtain ⟨g1, a1⟩ := q
    unfold takeS at h
    simp only at h
    split at h
    · rename_i hc
      simp only [Prod.mk.injEq, Option.some.injEq] at h
      obtain ⟨⟨rfl, rfl⟩, rfl⟩ := h
      exact ⟨rfl, hc.2, hc.1, hc.1, rfl⟩
    · simp at h
theorem nmS_yes {s : PSt} (h : (nmS s).2.e = 0) : ∃ g a, s.l = (g, a) :: (nmS s).2.l ∧ g.kind = 1 ∧ (nmS s).1 = g.text ∧ s.e = 0 ∧ (nmS s).2.d = s.d := by
  unfold nmS at h ⊢
  split at h
  · rename_i g a s' ht
    obtain ⟨h1, h2, h3, h4, h5⟩ := takeS_yes ht
    exact ⟨g, a, h1, h2, rfl, h3, h5⟩
  · simp only at h
    unfold failP at h
    split at h
    · cases h
    · rename_i hne; exact absurd h hne
theorem deepS_yes {rd : PSt → Nd × PSt} {s : PSt} (h : (deepS rd s).2.e = 0) : s.e = 0 ∧ s.d < 16 ∧ deepS rd s = ((rd ⟨s.l, s.d + 1, 0⟩).1, ⟨(rd ⟨s.l, s.d + 1, 0⟩).2.l, (rd ⟨s.l, s.d + 1, 0⟩).2.d - 1, (rd ⟨s.l, s.d + 1, 0⟩).2.e⟩) := by
  unfold deepS at h ⊢
  have hE : (deepE s).e = 0 → s.e = 0 ∧ s.d < 16 := by
    unfold deepE
    split
    · unfold failP
      split
      · intro h; cases h
      · rename_i hne; intro h; exact absurd h hne
    · rename_i hlt; intro h; exact ⟨h, by omega⟩
  by_cases he : (deepE s).e = 0
  · obtain ⟨h1, h2⟩ := hE he
    rw [if_neg (by rw [he]; simp)] at h ⊢
    rw [h1]
    exact ⟨rfl, h2, rfl⟩
  · rw [if_pos he] at h
    exact absurd h he
theorem opS_yes : ∀ {L : List (List UInt8)} {s s' : PSt} {x : List UInt8}, opS L s = (some x, s') → x ∈ L ∧ s'.l <:+ s.l ∧ s'.l.length + 1 = s.l.length ∧ s.e = 0 ∧ s'.e = 0 ∧ s'.d = s.d
  | [], s, s', x, h => by cases h
  | y :: r, s, s', x, h => by
    unfold opS at h
    split at h
    · rename_i hc
      simp only [Prod.mk.injEq, Option.some.injEq] at h
      obtain ⟨rfl, rfl⟩ := h
      obtain ⟨h1, h2, h3, h4, h5⟩ := isS_yes hc
      exact ⟨List.mem_cons_self .., h1, h2, h3, h4, h5⟩
    · obtain ⟨h1, h2⟩ := opS_yes h
      exact ⟨List.mem_cons_of_mem _ h1, h2⟩
/-- An expression, read with success. -/
structure RE (r : Nat) (s s' : PSt) (n : Nd) : Prop where
  suf : s'.l <:+ s.l
  dep : ∃ dn, dpI s.d r n dn ∧ FitE dn n
  cnt : (sgI r n).length + s'.l.length ≤ s.l.length
def GoodE (N r : Nat) (rd : PSt → Nd × PSt) : Prop := ∀ s, s.l.length < N → GoodL s.l → s.e = 0 → (rd s).2.e = 0 → RE r s (rd s).2 (rd s).1
theorem brG_len (b : Bool) (l : List Sg) : (brG b l).length = l.length + (if b then 2 else 0) := by
  cases b <;> simp [brG]
theorem sgI_bare {r : Nat} {n : Nd} (h : r ≤ rankN n) : sgI r n = sgN n := by
  unfold sgI
  rw [decide_eq_false (by omega)]
  rfl
theorem sgI_le {r r' : Nat} {n : Nd} (h : r' ≤ r) : (sgI r' n).length ≤ (sgI r n).length := by
  unfold sgI
  rw [brG_len, brG_len]
  by_cases h1 : rankN n < r'
  · rw [decide_eq_true h1, decide_eq_true (by omega)]; exact Nat.le_refl _
  · rw [decide_eq_false h1]; simp
theorem RE.weak {r r' : Nat} {s s' : PSt} {n : Nd} (h : RE r s s' n) (hr : r' ≤ r) : RE r' s s' n := by
  obtain ⟨h1, ⟨dn, h2, h3⟩, h4⟩ := h
  refine ⟨h1, ?_, by have := sgI_le (n := n) hr; omega⟩
  rcases h2 with ⟨g1, rfl⟩ | ⟨g1, g2, rfl⟩
  · exact ⟨_, .inl ⟨by omega, rfl⟩, h3⟩
  · by_cases g : r' ≤ rankN n
    · exact ⟨s.d, .inl ⟨g, rfl⟩, h3.mono (by omega)⟩
    · exact ⟨s.d + 1, .inr ⟨by omega, g2, rfl⟩, h3⟩
theorem lvO_of : ∀ i, i ≤ 4 → ∀ x ∈ opL i, lvO x = i := by
  intro i hi
  match i, hi with
  | 0, _ => decide
  | 1, _ => decide
  | 2, _ => decide
  | 3, _ => decide
  | 4, _ => decide
theorem sgN_bin (x : List UInt8) (a b : Nd) : sgN (.mk 13 x 0 [a, b]) = sgI (raO (lvO x)) a ++ opG x :: sgI (lvO x + 1) b := by rw [sgN_mk]; rfl
theorem sgN_un (x : List UInt8) (k : Nd) : sgN (.mk 14 x 0 [k]) = opG x :: sgI 5 k := by rw [sgN_mk]; rfl
theorem sgN_call (x : List UInt8) (ks : List Nd) : sgN (.mk 12 x 0 ks) = nmG x :: mkG [40] :: (rowG (ks.map sgN) ++ [mkG [41]]) := by rw [sgN_mk]; rfl
theorem RE.bin {i : Nat} (hi : i ≤ 4) {s0 s s1 s2 : PSt} {out b : Nd} {x : List UInt8} (h1 : RE (raO i) s0 s out) (hd : s.d = s0.d) (ho : opS (opL i) s = (some x, s1)) (h2 : RE (i + 1) s1 s2 b) : RE i s0 s2 (.mk 13 x 0 [out, b]) := by
  obtain ⟨o1, o2, o3, o4, o5, o6⟩ := opS_yes ho
  obtain ⟨a1, ⟨da, a2, a3⟩, a4⟩ := h1
  obtain ⟨b1, ⟨db, b2, b3⟩, b4⟩ := h2
  have hx := lvO_of i hi x o1
  have hr : rankN (.mk 13 x 0 [out, b]) = i := hx
  refine ⟨(b1.trans o2).trans a1, ⟨s0.d, .inl ⟨by omega, rfl⟩, ?_⟩, ?_⟩
  · rw [o6, hd] at b2
    exact .bin (by rw [hx]; exact o1) (by rw [hx]; exact a2) a3 (by rw [hx]; exact b2) b3
  · rw [sgI_bare (by omega), sgN_bin, hx, List.length_append, List.length_cons]
    omega
theorem lvE {N i : Nat} {nx : PSt → Nd × PSt} (hi : i ≤ 4) (hn : GoodE N (i + 1) nx) (hok : ∀ s, Ok s (nx s).2) : ∀ (f : Nat) (out : Nd) (s s0 : PSt), s.l.length < N → GoodL s.l → RE (raO i) s0 s out → s.e = 0 → s.d = s0.d → (lvLoop i nx f out s).2.e = 0 → RE i s0 (lvLoop i nx f out s).2 (lvLoop i nx f out s).1
  | 0, out, s, s0, hN, hg, hr, he, hd, hz => hr.weak (by unfold raO; split <;> omega)
  | f + 1, out, s, s0, hN, hg, hr, he, hd, hz => by
    unfold lvLoop at hz ⊢
    split at hz
    · rename_i s1 ho
      have := opS_no _ _ (by rw [ho])
      rw [ho] at this
      simp only at this
      subst this
      exact hr.weak (by unfold raO; split <;> omega)
    · rename_i x s1 ho
      obtain ⟨o1, o2, o3, o4, o5, o6⟩ := opS_yes ho
      have ok := hok s1
      split at hz
      · rename_i h2
        rw [if_pos h2]
        exact hr.bin hi hd ho (hn s1 (by omega) (hg.suf o2) o5 hz)
      · rename_i h2
        rw [if_neg h2]
        have hra : raO i = i := by unfold raO; rw [if_neg h2]
        have hL := lvLoop_ok (i := i) f (.mk 13 x 0 [out, (nx s1).1]) (nx s1).2 (fun s' _ => hok s')
        have he2 : (nx s1).2.e = 0 := by
          by_cases q : (nx s1).2.e = 0
          · exact q
          · have := hL.err q; omega
        have hn2 := hn s1 (by omega) (hg.suf o2) o5 he2
        have hb := hr.bin hi hd ho hn2
        refine lvE hi hn hok f _ _ s0 (by have := hn2.suf.length_le; omega) ((hg.suf o2).suf hn2.suf) (by rw [hra]; exact hb) he2 ?_ hz
        have := ok.dep
        omega
theorem levE {N : Nat} {un : PSt → Nd × PSt} (hu : GoodE N 5 un) (hok : ∀ s, Ok s (un s).2) : ∀ k, k ≤ 5 → GoodE N (5 - k) (levS un k)
  | 0, _ => hu
  | k + 1, hk => fun s hN hg he hz => by
    have ih := levE hu hok k (by omega)
    have hok2 : ∀ s, Ok s (levS un k s).2 := fun s => levS_ok k s fun s' _ => hok s'
    unfold levS at hz ⊢
    have e1 : 5 - (k + 1) = 4 - k := by omega
    have e2 : 5 - k = 4 - k + 1 := by omega
    rw [e2] at ih
    rw [e1]
    have he2 : (levS un k s).2.e = 0 := by
      by_cases q : (levS un k s).2.e = 0
      · exact q
      · have := (lvLoop_ok (i := 4 - k) (nx := levS un k) ((levS un k s).2.l.length + 1) (levS un k s).1 (levS un k s).2 (fun s' _ => hok2 s')).err q
        omega
    have h1 := ih s hN hg he he2
    exact lvE (by omega) ih hok2 _ _ _ s (by have := h1.suf.length_le; omega) (hg.suf h1.suf) (h1.weak (by unfold raO; split <;> omega)) he2 (hok2 s).dep hz
theorem ok_e {s s' : PSt} (h : Ok s s') (he : s'.e = 0) : s.e = 0 := by
  by_cases q : s.e = 0
  · exact q
  · have := h.err q; omega
/-- The signs of a row, each with one behind it. -/
def sumG (l : List Nd) : Nat := (l.map fun n => (sgN n).length + 1).sum
theorem sumG_snoc (l : List Nd) (n : Nd) : sumG (l ++ [n]) = sumG l + ((sgN n).length + 1) := by unfold sumG; simp
theorem rowG_len : ∀ l : List Nd, (rowG (l.map sgN)).length + 1 = (if l = [] then 1 else sumG l)
  | [] => rfl
  | [x] => by simp [rowG, sumG]
  | x :: y :: r => by
    have ih := rowG_len (y :: r)
    rw [if_neg (by simp)] at ih ⊢
    simp only [List.map_cons] at ih ⊢
    rw [rowG, List.length_append, List.length_cons]
    simp only [sumG, List.map_cons, List.sum_cons] at ih ⊢
    omega
/-- What is read in a list. -/
def GoodK (N : Nat) (F : Nat → Nd → Prop) (rd : PSt → Nd × PSt) : Prop := ∀ s, s.l.length < N → GoodL s.l → s.e = 0 → (rd s).2.e = 0 → (rd s).2.l <:+ s.l ∧ F s.d (rd s).1 ∧ (sgN (rd s).1).length + (rd s).2.l.length ≤ s.l.length
theorem lsE {N : Nat} {F : Nat → Nd → Prop} {rd : PSt → Nd × PSt} (hr : GoodK N F rd) (hok : ∀ s, Ok s (rd s).2) : ∀ (f : Nat) (out : List Nd) (s s0 : PSt), s.l.length < N → GoodL s.l → s.l <:+ s0.l → s.d = s0.d → (∀ k ∈ out, F s0.d k) → sumG out + s.l.length ≤ s0.l.length → (lsLoop rd f out s).2.e = 0 → (s.e = 0 → s.l.length < f) →
    (lsLoop rd f out s).2.l <:+ s0.l ∧ (∀ k ∈ (lsLoop rd f out s).1, F s0.d k) ∧ sumG (lsLoop rd f out s).1 + (lsLoop rd f out s).2.l.length ≤ s0.l.length ∧ (lsLoop rd f out s).1 ≠ []
  | 0, out, s, s0, hN, hg, hs, hd, hk, hc, hz, hf => by
    rw [lsLoop] at hz
    have := hf hz
    omega
  | f + 1, out, s, s0, hN, hg, hs, hd, hk, hc, hz, hf => by
    rw [lsLoop] at hz ⊢
    by_cases he : s.e = 0
    · rw [if_pos he] at hz ⊢
      have hf := hf he
      by_cases hc1 : (isS [41] (rd s).2).1 = true
      · rw [if_pos hc1] at hz ⊢
        obtain ⟨i1, i2, i3, i4, i5⟩ := isS_yes hc1
        obtain ⟨r1, r2, r3⟩ := hr s hN hg he i3
        refine ⟨(i1.trans r1).trans hs, ?_, ?_, by simp⟩
        · intro k hm
          rcases List.mem_append.1 hm with hm | hm
          · exact hk k hm
          · rw [List.mem_singleton.1 hm, ← hd]; exact r2
        · simp only [sumG_snoc]
          omega
      · rw [if_neg hc1] at hz ⊢
        have hm := ok_e (lsLoop_ok (rd := rd) f (out ++ [(rd s).1]) (mustS [44] (rd s).2) fun s' _ => hok s') hz
        obtain ⟨m0, m1, m2, m3, m4, m5⟩ := mustS_yes hm
        obtain ⟨r1, r2, r3⟩ := hr s hN hg he m4
        have hdep := (hok s).dep
        exact lsE hr hok f _ _ s0 (by omega) ((hg.suf r1).suf m2) ((m2.trans r1).trans hs) (by omega) (by
          intro k hm
          rcases List.mem_append.1 hm with hm | hm
          · exact hk k hm
          · rw [List.mem_singleton.1 hm, ← hd]; exact r2) (by rw [sumG_snoc]; omega) hz (fun _ => by omega)
    · rw [if_neg he] at hz
      exact absurd hz he
theorem listE {N : Nat} {F : Nat → Nd → Prop} {rd : PSt → Nd × PSt} (hr : GoodK N F rd) (hok : ∀ s, Ok s (rd s).2) (s : PSt) (hN : s.l.length < N) (hg : GoodL s.l) (he : s.e = 0) (hz : (listS rd s).2.e = 0) :
    (listS rd s).2.l <:+ s.l ∧ (∀ k ∈ (listS rd s).1, F s.d k) ∧ (rowG ((listS rd s).1.map sgN)).length + 1 + (listS rd s).2.l.length ≤ s.l.length := by
  unfold listS at hz ⊢
  by_cases hc : (isS [41] s).1 = true
  · rw [if_pos hc] at hz ⊢
    obtain ⟨i1, i2, i3, i4, i5⟩ := isS_yes hc
    exact ⟨i1, fun k hk => by simp at hk, by simp [rowG]; omega⟩
  · rw [if_neg hc] at hz ⊢
    obtain ⟨h1, h2, h3, h4⟩ := lsE hr hok (s.l.length + 2) [] s s hN hg (List.suffix_refl _) rfl (fun k hk => by cases hk) (by simp [sumG]) hz (fun _ => by omega)
    refine ⟨h1, h2, ?_⟩
    rw [rowG_len, if_neg h4]
    exact h3
theorem deepK {N : Nat} {rd : PSt → Nd × PSt} (h : GoodE N 0 rd) : GoodK N (fun d k => d < 16 ∧ FitE (d + 1) k) (deepS rd) := fun s hN hg he hz => by
  obtain ⟨h1, h2, h3⟩ := deepS_yes hz
  rw [h3] at hz ⊢
  obtain ⟨r1, ⟨dn, r2, r3⟩, r4⟩ := h ⟨s.l, s.d + 1, 0⟩ hN hg rfl hz
  rw [sgI_bare (Nat.zero_le _)] at r4
  refine ⟨r1, ⟨h2, ?_⟩, r4⟩
  rcases r2 with ⟨_, rfl⟩ | ⟨q, _⟩
  · exact r3
  · omega
theorem primE {N : Nat} {un : PSt → Nd × PSt} (hu : GoodE N 5 un) (hok : ∀ s, Ok s (un s).2) : GoodE (N + 1) 5 (primS un) := fun s hN hg he hz => by
  have hl := levE hu hok 5 (Nat.le_refl _)
  have hlok : ∀ s, Ok s (levS un 5 s).2 := fun s => levS_ok 5 s fun s' _ => hok s'
  have hdok : ∀ s, Ok s (deepS (levS un 5) s).2 := fun s => deepS_ok s fun s' _ => hlok s'
  have bare : ∀ {n : Nd} {s' : PSt}, s'.l <:+ s.l → 5 ≤ rankN n → FitE s.d n → (sgN n).length + s'.l.length ≤ s.l.length → RE 5 s s' n := fun h1 h2 h3 h4 => ⟨h1, ⟨_, .inl ⟨h2, rfl⟩, h3⟩, by rw [sgI_bare h2]; exact h4⟩
  unfold primS at hz ⊢
  split at hz
  · rename_i g a s' ht
    obtain ⟨t1, t2, t3, t4, t5⟩ := takeS_yes ht
    refine bare (by simp only; rw [t1]; exact List.suffix_cons _ _) (by show 5 ≤ 6; omega) (.num ((hg (g, a) (by rw [t1]; exact List.mem_cons_self ..)).2.2 t2)) ?_
    rw [t1, sgN_mk]
    simp [bldG]
    omega
  · rename_i ht
    split at hz
    · rename_i g a s' ht
      obtain ⟨t1, t2, t3, t4, t5⟩ := takeS_yes ht
      refine bare (by simp only; rw [t1]; exact List.suffix_cons _ _) (by show 5 ≤ 6; omega) (.text ((hg (g, a) (by rw [t1]; exact List.mem_cons_self ..)).2.1 t2).1 ((hg (g, a) (by rw [t1]; exact List.mem_cons_self ..)).2.1 t2).2) ?_
      rw [t1, sgN_mk]
      simp [bldG]
      omega
    · rename_i ht
      by_cases hn : (isS [110, 105, 108] s).1 = true
      · rw [if_pos hn]
        obtain ⟨i1, i2, i3, i4, i5⟩ := isS_yes hn
        refine bare i1 (by show 5 ≤ 6; omega) .nil ?_
        rw [sgN_mk]
        simp [bldG]
        omega
      · rw [if_neg hn] at hz ⊢
        by_cases hb : (isS [40] s).1 = true
        · rw [if_pos hb] at hz ⊢
          obtain ⟨i1, i2, i3, i4, i5⟩ := isS_yes hb
          obtain ⟨m0, m1, m2, m3, m4, m5⟩ := mustS_yes hz
          have hd := deepK hl
          obtain ⟨d1, ⟨d2, d3⟩, d4⟩ := hd _ (by omega) (hg.suf i1) i4 m4
          refine ⟨(m2.trans d1).trans i1, ?_, ?_⟩
          all_goals simp only
          · by_cases hr : 5 ≤ rankN (deepS (levS un 5) (isS [40] s).2).1
            · exact ⟨s.d, .inl ⟨hr, rfl⟩, d3.mono (by omega)⟩
            · exact ⟨s.d + 1, .inr ⟨by omega, by omega, rfl⟩, by rw [← i5]; exact d3⟩
          · have hle : (sgI 5 (deepS (levS un 5) (isS [40] s).2).1).length ≤ (sgN (deepS (levS un 5) (isS [40] s).2).1).length + 2 := by
              unfold sgI
              rw [brG_len]
              split <;> omega
            omega
        · rw [if_neg hb] at hz ⊢
          by_cases hc : (isS [40] (nmS s).2).1 = true
          · rw [if_pos hc] at hz ⊢
            obtain ⟨i1, i2, i3, i4, i5⟩ := isS_yes hc
            obtain ⟨g, a, n1, n2, n3, n4, n5⟩ := nmS_yes i3
            have hsn : (nmS s).2.l <:+ s.l := by rw [n1]; exact List.suffix_cons _ _
            have hsl := congrArg List.length n1
            rw [List.length_cons] at hsl
            obtain ⟨l1, l2, l3⟩ := listE (deepK hl) hdok _ (by omega) ((hg.suf hsn).suf i1) i4 hz
            refine bare ((l1.trans i1).trans hsn) (by show 5 ≤ 6; omega) ?_ ?_
            · rw [i5, n5] at l2
              rw [n3]
              exact .call ((hg (g, a) (by rw [n1]; exact List.mem_cons_self ..)).1 n2) (fun k hk => (l2 k hk).1) (fun k hk => (l2 k hk).2)
            · rw [sgN_call]
              simp only [List.length_cons, List.length_append, List.length_nil]
              omega
          · rw [if_neg hc] at hz ⊢
            obtain ⟨g, a, n1, n2, n3, n4, n5⟩ := nmS_yes hz
            have hsl := congrArg List.length n1
            rw [List.length_cons] at hsl
            refine bare (by simp only; rw [n1]; exact List.suffix_cons _ _) (by show 5 ≤ 6; omega) ?_ ?_
            · rw [n3]
              exact .var ((hg (g, a) (by rw [n1]; exact List.mem_cons_self ..)).1 n2)
            · rw [sgN_mk]
              simp [bldG]
              omega
theorem unE : ∀ n, GoodE n 5 (unS n)
  | 0 => fun s hN hg he hz => by omega
  | n + 1 => fun s hN hg he hz => by
    have ih := unE n
    have one : ∀ x : List UInt8, (x = [110, 111, 116] ∨ x = [45]) → (isS x s).1 = true → (deepS (unS n) (isS x s).2).2.e = 0 → RE 5 s (deepS (unS n) (isS x s).2).2 (.mk 14 x 0 [(deepS (unS n) (isS x s).2).1]) := by
      intro x hx hi hz
      obtain ⟨i1, i2, i3, i4, i5⟩ := isS_yes hi
      obtain ⟨h1, h2, h3⟩ := deepS_yes hz
      rw [h3] at hz ⊢
      obtain ⟨r1, ⟨dn, r2, r3⟩, r4⟩ := ih ⟨(isS x s).2.l, (isS x s).2.d + 1, 0⟩ (by simp only; omega) (hg.suf i1) rfl hz
      simp only at r1 r2 r4 h2
      rw [i5] at r1 r2 r3 r4 h2 ⊢
      refine ⟨r1.trans i1, ⟨s.d, .inl ⟨Nat.le_refl _, rfl⟩, .un hx h2 r2 r3⟩, ?_⟩
      rw [sgI_bare (r := 5) (by show 5 ≤ 5; omega), sgN_un, List.length_cons]
      simp only
      omega
    unfold unS at hz ⊢
    by_cases h1 : (isS [110, 111, 116] s).1 = true
    · rw [if_pos h1] at hz ⊢
      exact one _ (.inl rfl) h1 hz
    · rw [if_neg h1] at hz ⊢
      by_cases h2 : (isS [45] s).1 = true
      · rw [if_pos h2] at hz ⊢
        exact one _ (.inr rfl) h2 hz
      · rw [if_neg h2] at hz ⊢
        exact primE ih (unS_ok n) s hN hg he hz
theorem exE {s : PSt} (hg : GoodL s.l) (he : s.e = 0) (hz : (exS s).2.e = 0) : (exS s).2.l <:+ s.l ∧ FitE s.d (exS s).1 ∧ (sgN (exS s).1).length + (exS s).2.l.length ≤ s.l.length := by
  obtain ⟨h1, ⟨dn, h2, h3⟩, h4⟩ := levE (unE (s.l.length + 1)) (unS_ok _) 5 (Nat.le_refl _) s (Nat.lt_succ_self _) hg he hz
  rw [sgI_bare (Nat.zero_le _)] at h4
  refine ⟨h1, ?_, h4⟩
  rcases h2 with ⟨_, rfl⟩ | ⟨q, _⟩
  · exact h3
  · omega
theorem stE {st : PSt → Nd × PSt} {N : Nat} (hr : GoodK N (FitS 0) st) (hok : ∀ s, Ok s (st s).2) (hlt : ∀ s, s.e = 0 → GoodL s.l → s.l.length < N → (st s).2.e = 0 → (st s).2.l.length < s.l.length) : ∀ (f : Nat) (out : List Nd) (s s0 : PSt), s.l.length < N → GoodL s.l → s.l <:+ s0.l → s.d = s0.d → (∀ k ∈ out, FitS 0 s0.d k) → (out.map fun n => (sgN n).length).sum + s.l.length ≤ s0.l.length → (stLoop st f out s).2.e = 0 → (s.e = 0 → s.l.length < f) →
    (stLoop st f out s).2.l <:+ s0.l ∧ (∀ k ∈ (stLoop st f out s).1, FitS 0 s0.d k) ∧ ((stLoop st f out s).1.map fun n => (sgN n).length).sum + 1 + (stLoop st f out s).2.l.length ≤ s0.l.length
  | 0, out, s, s0, hN, hg, hs, hd, hk, hc, hz, hf => by
    rw [stLoop] at hz
    have := hf hz
    omega
  | f + 1, out, s, s0, hN, hg, hs, hd, hk, hc, hz, hf => by
    rw [stLoop] at hz ⊢
    by_cases he : s.e = 0
    · rw [if_pos he] at hz ⊢
      have hf := hf he
      by_cases hc1 : (isS [125] s).1 = true
      · rw [if_pos hc1] at hz ⊢
        obtain ⟨i1, i2, i3, i4, i5⟩ := isS_yes hc1
        exact ⟨i1.trans hs, hk, by simp only; omega⟩
      · rw [if_neg hc1] at hz ⊢
        have he2 := ok_e (stLoop_ok hok f (out ++ [(st s).1]) (st s).2) hz
        obtain ⟨r1, r2, r3⟩ := hr s hN hg he he2
        have h4 := hlt s he hg hN he2
        have hdep := (hok s).dep
        exact stE hr hok hlt f _ _ s0 (by omega) (hg.suf r1) (r1.trans hs) (by omega) (by
          intro k hm
          rcases List.mem_append.1 hm with hm | hm
          · exact hk k hm
          · rw [List.mem_singleton.1 hm, ← hd]; exact r2) (by simp only [List.map_append, List.map_cons, List.map_nil, List.sum_append, List.sum_cons, List.sum_nil]; omega) hz (fun _ => by omega)
    · rw [if_neg he] at hz
      exact absurd hz he
theorem flat_len : ∀ l : List Nd, (l.map sgN).flatten.length = (l.map fun n => (sgN n).length).sum
  | [] => rfl
  | k :: r => by simp only [List.map_cons, List.flatten_cons, List.length_append, List.sum_cons, flat_len r]
theorem blockE {st : PSt → Nd × PSt} {N : Nat} (hr : GoodK N (FitS 0) st) (hok : ∀ s, Ok s (st s).2) (hlt : ∀ s, s.e = 0 → GoodL s.l → s.l.length < N → (st s).2.e = 0 → (st s).2.l.length < s.l.length) : GoodK (N + 1) (FitS 1) (blockS st) := fun s hN hg he hz => by
  unfold blockS at hz ⊢
  obtain ⟨d1, d2, d3⟩ := deepS_yes hz
  rw [d3] at hz ⊢
  obtain ⟨m0, m1, m2, m3, m4, m5⟩ := mustS_yes d1
  simp only at hz ⊢
  obtain ⟨h1, h2, h3⟩ := stE hr hok hlt ((mustS [123] s).l.length + 2) [] ⟨(mustS [123] s).l, (mustS [123] s).d + 1, 0⟩ ⟨(mustS [123] s).l, (mustS [123] s).d + 1, 0⟩ (by simp only; omega) (hg.suf m2) (List.suffix_refl _) rfl (fun k hk => by cases hk) (by simp) hz (fun _ => by simp only; omega)
  simp only at h1 h2 h3
  rw [m5] at h1 h2 h3 d2 ⊢
  refine ⟨h1.trans m2, .block d2 h2, ?_⟩
  rw [sgN_mk]
  simp only [bldG, List.length_cons, List.length_append, List.length_nil, flat_len]
  omega
theorem ifE {bl : PSt → Nd × PSt} {N : Nat} (hb : GoodK N (FitS 1) bl) (hok : ∀ s, Ok s (bl s).2) (s : PSt) (hN : s.l.length < N) (hg : GoodL s.l) (he : s.e = 0) (hz : (ifS bl s).2.e = 0) : (ifS bl s).2.l <:+ s.l ∧ FitS 0 s.d (ifS bl s).1 ∧ (sgN (ifS bl s).1).length + (ifS bl s).2.l.length ≤ s.l.length + 1 := by
  unfold ifS at hz ⊢
  by_cases hc : (isS [101, 108, 115, 101] (bl (exS s).2).2).1 = true
  · rw [if_pos hc] at hz ⊢
    obtain ⟨i1, i2, i3, i4, i5⟩ := isS_yes hc
    have e1 := ok_e (hok (exS s).2) i3
    obtain ⟨x1, x2, x3⟩ := exE hg he e1
    have xd := (exS_ok s).dep
    have bd := (hok (exS s).2).dep
    obtain ⟨b1, b2, b3⟩ := hb (exS s).2 (by omega) (hg.suf x1) e1 i3
    obtain ⟨c1, c2, c3⟩ := hb _ (by omega) ((hg.suf x1).suf b1 |>.suf i1) i4 hz
    refine ⟨((c1.trans i1).trans b1).trans x1, .if3 x2 (by rw [← xd]; exact b2) (by rw [i5, bd, xd] at c2; exact c2), ?_⟩
    rw [sgN_mk]
    simp only [bldG, List.map_cons, List.map_nil, List.length_cons, List.length_append, List.length_nil, List.getD_cons_zero, List.getD_cons_succ, if_true]
    omega
  · rw [if_neg hc] at hz ⊢
    have e1 := ok_e (hok (exS s).2) hz
    obtain ⟨x1, x2, x3⟩ := exE hg he e1
    have xd := (exS_ok s).dep
    obtain ⟨b1, b2, b3⟩ := hb (exS s).2 (by omega) (hg.suf x1) e1 hz
    refine ⟨b1.trans x1, .if2 x2 (by rw [← xd]; exact b2), ?_⟩
    rw [sgN_mk]
    simp only [bldG, List.map_cons, List.map_nil, List.length_cons, List.length_append, List.length_nil, List.getD_cons_zero, List.getD_cons_succ]
    rw [if_neg (by decide)]
    simp only [List.length_nil]
    omega
theorem stmtE {bl : PSt → Nd × PSt} {N : Nat} (hb : GoodK N (FitS 1) bl) (hok : ∀ s, Ok s (bl s).2) : GoodK (N + 1) (FitS 0) (stmtS bl) := fun s hN hg he hz => by
  unfold stmtS at hz ⊢
  by_cases h1 : (isS [105, 102] s).1 = true
  · rw [if_pos h1] at hz ⊢
    obtain ⟨i1, i2, i3, i4, i5⟩ := isS_yes h1
    obtain ⟨a1, a2, a3⟩ := ifE hb hok _ (by omega) (hg.suf i1) i4 hz
    exact ⟨a1.trans i1, by rw [← i5]; exact a2, by omega⟩
  rw [if_neg h1] at hz ⊢
  by_cases h2 : (isS [119, 104, 105, 108, 101] s).1 = true
  · rw [if_pos h2] at hz ⊢
    obtain ⟨i1, i2, i3, i4, i5⟩ := isS_yes h2
    have e1 := ok_e (hok (exS (isS [119, 104, 105, 108, 101] s).2).2) hz
    obtain ⟨x1, x2, x3⟩ := exE (hg.suf i1) i4 e1
    have xd := (exS_ok (isS [119, 104, 105, 108, 101] s).2).dep
    obtain ⟨b1, b2, b3⟩ := hb _ (by omega) ((hg.suf i1).suf x1) e1 hz
    rw [xd, i5] at b2
    rw [i5] at x2
    refine ⟨(b1.trans x1).trans i1, .while_ x2 b2, ?_⟩
    rw [sgN_mk]
    simp only [bldG, List.map_cons, List.map_nil, List.length_cons, List.length_append, List.length_nil, List.getD_cons_zero, List.getD_cons_succ]
    omega
  rw [if_neg h2] at hz ⊢
  by_cases h3 : (isS [115, 116, 111, 112] s).1 = true
  · rw [if_pos h3] at hz ⊢
    obtain ⟨i1, i2, i3, i4, i5⟩ := isS_yes h3
    obtain ⟨m0, m1, m2, m3, m4, m5⟩ := mustS_yes hz
    refine ⟨m2.trans i1, .stop, ?_⟩
    rw [sgN_mk]
    simp only [bldG, List.length_cons, List.length_nil]
    omega
  rw [if_neg h3] at hz ⊢
  by_cases h4 : isSet s = true
  · rw [if_pos h4] at hz ⊢
    obtain ⟨m0, m1, m2, m3, m4, m5⟩ := mustS_yes hz
    have e1 := ok_e (exS_ok _) m4
    obtain ⟨k0, k1, k2, k3, k4, k5⟩ := mustS_yes e1
    obtain ⟨g, a, n1, n2, n3, n4, n5⟩ := nmS_yes k4
    have hsn : (nmS s).2.l <:+ s.l := by rw [n1]; exact List.suffix_cons _ _
    have hsl := congrArg List.length n1
    rw [List.length_cons] at hsl
    obtain ⟨x1, x2, x3⟩ := exE ((hg.suf hsn).suf k2) e1 m4
    rw [k5, n5] at x2
    refine ⟨((m2.trans x1).trans k2).trans hsn, ?_, ?_⟩
    · simp only
      rw [n3]
      exact .set ((hg (g, a) (by rw [n1]; exact List.mem_cons_self ..)).1 n2) x2
    · rw [sgN_mk]
      simp only [bldG, List.map_cons, List.map_nil, List.length_cons, List.length_append, List.length_nil, List.getD_cons_zero]
      omega
  rw [if_neg h4] at hz ⊢
  obtain ⟨m0, m1, m2, m3, m4, m5⟩ := mustS_yes hz
  obtain ⟨x1, x2, x3⟩ := exE hg he m4
  refine ⟨m2.trans x1, .do_ x2, ?_⟩
  rw [sgN_mk]
  simp only [bldG, List.map_cons, List.map_nil, List.length_cons, List.length_append, List.length_nil, List.getD_cons_zero]
  omega
theorem stmt_lt {bl : PSt → Nd × PSt} {N : Nat} (hb : GoodK N (FitS 1) bl) (hok : ∀ s, Ok s (bl s).2) (s : PSt) (he : s.e = 0) (hg : GoodL s.l) (hN : s.l.length < N + 1) (hz : (stmtS bl s).2.e = 0) : (stmtS bl s).2.l.length < s.l.length := by
  obtain ⟨h1, h2, h3⟩ := stmtE hb hok s hN hg he hz
  have : 1 ≤ (sgN (stmtS bl s).1).length := by
    generalize (stmtS bl s).1 = n at h2
    cases h2 <;> rw [sgN_mk] <;> simp [bldG]
  omega
theorem blE : ∀ n, GoodK n (FitS 1) (blS n)
  | 0 => fun s hN hg he hz => by omega
  | n + 1 => fun s hN hg he hz => by
    have ih := blE n
    have h := blockE (stmtE ih (blS_ok n)) (stmtS_ok (blS_ok n)) (stmt_lt ih (blS_ok n))
    exact h s (by omega) hg he hz
theorem varE (N : Nat) : GoodK N (fun _ n => ∃ y, n = .mk 11 y 0 [] ∧ LexOk (nmG y)) varS := fun s hN hg he hz => by
  unfold varS at hz ⊢
  obtain ⟨g, a, n1, n2, n3, n4, n5⟩ := nmS_yes hz
  have hsl := congrArg List.length n1
  rw [List.length_cons] at hsl
  refine ⟨by simp only; rw [n1]; exact List.suffix_cons _ _, ⟨g.text, by simp only; rw [n3], (hg (g, a) (by rw [n1]; exact List.mem_cons_self ..)).1 n2⟩, ?_⟩
  rw [sgN_mk]
  simp [bldG]
  omega
theorem vars_of : ∀ l : List Nd, (∀ k ∈ l, ∃ y, k = .mk 11 y 0 [] ∧ LexOk (nmG y)) → ∃ ys : List (List UInt8), l = ys.map (fun y => .mk 11 y 0 []) ∧ ∀ y ∈ ys, LexOk (nmG y)
  | [], _ => ⟨[], rfl, fun y h => by cases h⟩
  | k :: r, h => by
    obtain ⟨y, h1, h2⟩ := h k (List.mem_cons_self ..)
    obtain ⟨ys, h3, h4⟩ := vars_of r fun k hk => h k (List.mem_cons_of_mem _ hk)
    refine ⟨y :: ys, by rw [h1, h3]; rfl, fun z hz => ?_⟩
    rcases List.mem_cons.1 hz with rfl | hz
    · exact h2
    · exact h4 z hz
theorem onE (s : PSt) (hg : GoodL s.l) (he : s.e = 0) (hd : s.d = 0) (hz : (onS s).2.e = 0) : (onS s).2.l <:+ s.l ∧ FitO (onS s).1 ∧ (sgN (onS s).1).length + (onS s).2.l.length ≤ s.l.length ∧ (onS s).2.l.length < s.l.length := by
  unfold onS at hz ⊢
  simp only at hz ⊢
  have e2 := ok_e (blS_ok _ _) hz
  have e1 := ok_e (listS_ok _ fun s' _ => varS_ok s') e2
  obtain ⟨k0, k1, k2, k3, k4, k5⟩ := mustS_yes e1
  obtain ⟨g, a, n1, n2, n3, n4, n5⟩ := nmS_yes k4
  obtain ⟨m0, m1, m2, m3, m4, m5⟩ := mustS_yes n4
  have hsn : (nmS (mustS [111, 110] s)).2.l <:+ (mustS [111, 110] s).l := by rw [n1]; exact List.suffix_cons _ _
  have hsl := congrArg List.length n1
  rw [List.length_cons] at hsl
  obtain ⟨l1, l2, l3⟩ := listE (varE (s.l.length + 1)) varS_ok _ (by omega) (((hg.suf m2).suf hsn).suf k2) e1 e2
  have ld := (listS_ok (mustS [40] (nmS (mustS [111, 110] s)).2) fun s' _ => varS_ok s').dep
  have l1' := l1.length_le
  obtain ⟨b1, b2, b3⟩ := blE ((listS varS (mustS [40] (nmS (mustS [111, 110] s)).2)).2.l.length + 1) _ (Nat.lt_succ_self _) ((((hg.suf m2).suf hsn).suf k2).suf l1) e2 hz
  rw [ld, k5, n5, m5, hd] at b2
  obtain ⟨ys, v1, v2⟩ := vars_of _ l2
  refine ⟨(((b1.trans l1).trans k2).trans hsn).trans m2, ⟨g.text, ys, _, ?_, (hg (g, a) (m2.subset (by rw [n1]; exact List.mem_cons_self ..))).1 n2, v2, b2⟩, ?_, ?_⟩
  · rw [n3, v1]
  · rw [sgN_mk]
    simp only [bldG, List.map_append, List.map_cons, List.map_nil, List.dropLast_concat, List.getLastD_concat, List.length_cons, List.length_append, List.length_nil]
    omega
  · omega
theorem scE : ∀ (f : Nat) (out : List Nd) (s s0 : PSt), GoodL s.l → s.l <:+ s0.l → s.d = 0 → (∀ k ∈ out, FitO k) → (out.map fun n => (sgN n).length).sum + s.l.length ≤ s0.l.length → (scLoop f out s).2.e = 0 → (s.e = 0 → s.l.length < f) →
    (∀ k ∈ (scLoop f out s).1, FitO k) ∧ ((scLoop f out s).1.map fun n => (sgN n).length).sum + (scLoop f out s).2.l.length ≤ s0.l.length ∧ endS (scLoop f out s).2 = true ∧ (scLoop f out s).2.l <:+ s0.l
  | 0, out, s, s0, hg, hs, hd, hk, hc, hz, hf => by
    rw [scLoop] at hz
    have := hf hz
    omega
  | f + 1, out, s, s0, hg, hs, hd, hk, hc, hz, hf => by
    rw [scLoop] at hz ⊢
    by_cases he : s.e = 0 ∧ endS s = false
    · rw [if_pos he] at hz ⊢
      have hf := hf he.1
      have e2 := ok_e (scLoop_ok f (out ++ [(onS s).1]) (onS s).2) hz
      obtain ⟨r1, r2, r3, r4⟩ := onE s hg he.1 hd e2
      have hdep := (onS_ok s).dep
      exact scE f _ _ s0 (hg.suf r1) (r1.trans hs) (by omega) (by
          intro k hm
          rcases List.mem_append.1 hm with hm | hm
          · exact hk k hm
          · rw [List.mem_singleton.1 hm]; exact r2) (by simp only [List.map_append, List.map_cons, List.map_nil, List.sum_append, List.sum_cons, List.sum_nil]; omega) hz (fun _ => by omega)
    · rw [if_neg he] at hz ⊢
      refine ⟨hk, hc, ?_, hs⟩
      cases h : endS s with
      | true => rfl
      | false => exact absurd ⟨hz, h⟩ he
end Go.Proofs.YtpbiblhkcomekaaGreat

/- TreeBack, in plain words: what fits is read back from its signs: expressions. -/
namespace Go.Proofs.YtpbiblhkcomekaaGreat
open Go Go.RowKit
set_option linter.unusedSimpArgs false
set_option linter.unusedVariables false
set_option maxRecDepth 20000
theorem spl {A : List (Sg × Nat)} {L M : List Sg} (h : A.map (·.1) = L ++ M) : ∃ A1 A2, A = A1 ++ A2 ∧ A1.map (·.1) = L ∧ A2.map (·.1) = M := by
  obtain ⟨a, b, h1, h2, h3⟩ := List.map_eq_append_iff.1 h
  exact ⟨a, b, h1, h2, h3⟩
theorem spc {A : List (Sg × Nat)} {g : Sg} {M : List Sg} (h : A.map (·.1) = g :: M) : ∃ a A2, A = (g, a) :: A2 ∧ A2.map (·.1) = M := by
  cases A with
  | nil => cases h
  | cons p r =>
    obtain ⟨g1, a⟩ := p
    injection h with h1 h2
    simp only at h1
    subst h1
    exact ⟨a, r, rfl, h2⟩
/-- A sign that a level, or one above, goes on with. -/
def contB (r : Nat) (g : Sg) : Bool := (g.kind == 2 || g.kind == 5) && (g.text == [40] || [0, 1, 2, 3, 4].any fun i => decide (r ≤ i) && (opL i).contains g.text)
def stpR (r : Nat) (R : List (Sg × Nat)) : Prop := ∀ g a R', R = (g, a) :: R' → contB r g = false
theorem contB_le {r r' : Nat} {g : Sg} (h : contB r g = false) (hr : r ≤ r') : contB r' g = false := by
  cases hc : contB r' g with
  | false => rfl
  | true =>
    unfold contB at h hc
    obtain ⟨h1, h2⟩ := (Bool.and_eq_true _ _).mp hc
    rw [Bool.or_eq_true, List.any_eq_true] at h2
    rw [h1, Bool.true_and, Bool.or_eq_false_iff] at h
    rcases h2 with h2 | ⟨i, hi, h2⟩
    · rw [h2] at h; cases h.1
    · have := (List.any_eq_false.1 h.2) i hi
      rw [Bool.and_eq_true, decide_eq_true_eq] at h2
      rw [Bool.and_eq_true, decide_eq_true_eq] at this
      exact absurd ⟨Nat.le_trans hr h2.1, h2.2⟩ this
theorem stpR.le {r r' : Nat} {R : List (Sg × Nat)} (h : stpR r R) (hr : r ≤ r') : stpR r' R := fun g a R' e => contB_le (h g a R' e) hr
theorem isS_cons (x : List UInt8) (g : Sg) (a : Nat) (R : List (Sg × Nat)) (d : Nat) : isS x ⟨(g, a) :: R, d, 0⟩ = if g.text = x ∧ (g.kind = 2 ∨ g.kind = 5) then (true, ⟨R, d, 0⟩) else (false, ⟨(g, a) :: R, d, 0⟩) := by
  unfold isS
  simp only [true_and]
theorem isS_hit {x : List UInt8} {g : Sg} (h1 : g.text = x) (h2 : g.kind = 2 ∨ g.kind = 5) (a : Nat) (R : List (Sg × Nat)) (d : Nat) : isS x ⟨(g, a) :: R, d, 0⟩ = (true, ⟨R, d, 0⟩) := by rw [isS_cons, if_pos ⟨h1, h2⟩]
theorem isS_mis {x : List UInt8} {g : Sg} (h : ¬ (g.text = x ∧ (g.kind = 2 ∨ g.kind = 5))) (a : Nat) (R : List (Sg × Nat)) (d : Nat) : isS x ⟨(g, a) :: R, d, 0⟩ = (false, ⟨(g, a) :: R, d, 0⟩) := by rw [isS_cons, if_neg h]
theorem mustS_hit {x : List UInt8} {g : Sg} (h1 : g.text = x) (h2 : g.kind = 2 ∨ g.kind = 5) (a : Nat) (R : List (Sg × Nat)) (d : Nat) : mustS x ⟨(g, a) :: R, d, 0⟩ = ⟨R, d, 0⟩ := by
  unfold mustS
  rw [isS_hit h1 h2]
  rfl
theorem mk_is (x : List UInt8) (a : Nat) (R : List (Sg × Nat)) (d : Nat) : isS x ⟨(mkG x, a) :: R, d, 0⟩ = (true, ⟨R, d, 0⟩) := isS_hit rfl (.inr rfl) a R d
theorem mk_must (x : List UInt8) (a : Nat) (R : List (Sg × Nat)) (d : Nat) : mustS x ⟨(mkG x, a) :: R, d, 0⟩ = ⟨R, d, 0⟩ := mustS_hit rfl (.inr rfl) a R d
theorem wd_is (x : List UInt8) (a : Nat) (R : List (Sg × Nat)) (d : Nat) : isS x ⟨(wdG x, a) :: R, d, 0⟩ = (true, ⟨R, d, 0⟩) := isS_hit rfl (.inl rfl) a R d
theorem wd_must (x : List UInt8) (a : Nat) (R : List (Sg × Nat)) (d : Nat) : mustS x ⟨(wdG x, a) :: R, d, 0⟩ = ⟨R, d, 0⟩ := mustS_hit rfl (.inl rfl) a R d
theorem nmS_hit (x : List UInt8) (a : Nat) (R : List (Sg × Nat)) (d : Nat) : nmS ⟨(nmG x, a) :: R, d, 0⟩ = (x, ⟨R, d, 0⟩) := rfl
theorem opS_mis {R : List (Sg × Nat)} {d : Nat} : ∀ {L : List (List UInt8)}, (∀ g a R', R = (g, a) :: R' → (g.kind = 2 ∨ g.kind = 5) → g.text ∉ L) → opS L ⟨R, d, 0⟩ = (none, ⟨R, d, 0⟩)
  | [], _ => rfl
  | x :: r, h => by
    unfold opS
    have hf : (isS x ⟨R, d, 0⟩).1 = false := by
      cases R with
      | nil => rfl
      | cons p R' =>
        obtain ⟨g, a⟩ := p
        rw [isS_cons, if_neg]
        rintro ⟨h1, h2⟩
        exact h g a R' rfl h2 (by rw [h1]; exact List.mem_cons_self ..)
    rw [hf, if_neg (by decide)]
    exact opS_mis fun g a R' e hk hm => h g a R' e hk (List.mem_cons_of_mem _ hm)
theorem opS_hit {x : List UInt8} {g : Sg} (h1 : g.text = x) (h2 : g.kind = 2 ∨ g.kind = 5) (a : Nat) (R : List (Sg × Nat)) (d : Nat) : ∀ {L : List (List UInt8)}, x ∈ L → opS L ⟨(g, a) :: R, d, 0⟩ = (some x, ⟨R, d, 0⟩)
  | [], h => by cases h
  | y :: r, h => by
    unfold opS
    by_cases hy : y = x
    · subst hy
      rw [isS_hit h1 h2]
      rfl
    · rw [isS_mis (by rw [h1]; rintro ⟨q, _⟩; exact hy q.symm)]
      simp only
      rw [if_neg (by decide)]
      rcases List.mem_cons.1 h with h | h
      · exact absurd h.symm hy
      · exact opS_hit h1 h2 a R d h
theorem opS_stop {i r : Nat} (hi : i ≤ 4) (hr : r ≤ i) {R : List (Sg × Nat)} {d : Nat} (h : stpR r R) : opS (opL i) ⟨R, d, 0⟩ = (none, ⟨R, d, 0⟩) := by
  refine opS_mis fun g a R' e hk hm => ?_
  have hc := h g a R' e
  have hk : (g.kind == 2 || g.kind == 5) = true := by simpa using hk
  unfold contB at hc
  rw [hk, Bool.true_and, Bool.or_eq_false_iff] at hc
  have hm : (opL i).contains g.text = true := by simpa using hm
  have hmem : i ∈ [0, 1, 2, 3, 4] := by simp; omega
  have := (List.any_eq_false.1 hc.2) i hmem
  rw [hm, Bool.and_true, decide_eq_true_eq] at this
  exact this hr
theorem opG_text (x : List UInt8) : (opG x).text = x := by unfold opG; split <;> rfl
theorem opG_kind (x : List UInt8) : (opG x).kind = 2 ∨ (opG x).kind = 5 := by
  unfold opG
  split
  · exact .inl rfl
  · exact .inr rfl
theorem op_cont : ∀ i, i ≤ 4 → ∀ x ∈ opL i, contB (i + 1) (opG x) = false := by
  intro i hi
  match i, hi with
  | 0, _ => decide
  | 1, _ => decide
  | 2, _ => decide
  | 3, _ => decide
  | 4, _ => decide
theorem stpR_op {i : Nat} (hi : i ≤ 4) {x : List UInt8} (hx : x ∈ opL i) (a : Nat) (R : List (Sg × Nat)) : stpR (i + 1) ((opG x, a) :: R) := fun g b R' e => by
  injection e with e1 e2
  injection e1 with e1 e3
  subst e1
  exact op_cont i hi x hx
theorem stpR_mk {r : Nat} {g : Sg} (h : contB 0 g = false) (a : Nat) (R : List (Sg × Nat)) : stpR r ((g, a) :: R) := fun g' b R' e => by
  injection e with e1 e2
  injection e1 with e1 e3
  subst e1
  exact contB_le h (Nat.zero_le _)
theorem lv_stop {i : Nat} (hi : i ≤ 4) {nx : PSt → Nd × PSt} {out : Nd} {R : List (Sg × Nat)} {d : Nat} (h : stpR i R) : ∀ f, lvLoop i nx f out ⟨R, d, 0⟩ = (out, ⟨R, d, 0⟩)
  | 0 => rfl
  | f + 1 => by
    unfold lvLoop
    rw [opS_stop hi (Nat.le_refl _) h]
theorem levS_succ (un : PSt → Nd × PSt) {i : Nat} (hi : i ≤ 4) (s : PSt) : levS un (5 - i) s = lvLoop i (levS un (4 - i)) ((levS un (4 - i) s).2.l.length + 1) (levS un (4 - i) s).1 (levS un (4 - i) s).2 := by
  obtain ⟨k, hk⟩ : ∃ k, 4 - i = k := ⟨_, rfl⟩
  rw [show 5 - i = k + 1 by omega, hk, levS, show 4 - k = i by omega]
theorem down {un : PSt → Nd × PSt} {n : Nd} {d : Nat} {A R : List (Sg × Nat)} : ∀ (j r : Nat), j ≤ 5 → r ≤ j → levS un (5 - j) ⟨A ++ R, d, 0⟩ = (n, ⟨R, d, 0⟩) → stpR r R → levS un (5 - r) ⟨A ++ R, d, 0⟩ = (n, ⟨R, d, 0⟩)
  | 0, r, hj, hr, h, hs => by
    obtain rfl : r = 0 := by omega
    exact h
  | j + 1, r, hj, hr, h, hs => by
    by_cases e : r = j + 1
    · subst e; exact h
    · refine down j r (by omega) (by omega) ?_ hs
      rw [levS_succ un (by omega), show 4 - j = 5 - (j + 1) by omega, h]
      exact lv_stop (by omega) (hs.le (by omega)) _
theorem sgI_br {r : Nat} {n : Nd} (h : rankN n < r) : sgI r n = mkG [40] :: (sgN n ++ [mkG [41]]) := by
  unfold sgI
  rw [decide_eq_true h]
  rfl
/-- How an expression begins. -/
def headB (g : Sg) : Bool := g.kind == 1 || g.kind == 3 || g.kind == 4 || (g.kind == 2 && (g.text == [110, 105, 108] || g.text == [110, 111, 116])) || (g.kind == 5 && (g.text == [40] || g.text == [45]))
theorem headE {d : Nat} {n : Nd} (h : FitE d n) : ∃ g L, sgN n = g :: L ∧ headB g = true := by
  induction h with
  | num h => exact ⟨_, _, by rw [sgN_mk]; rfl, rfl⟩
  | text h hl => exact ⟨_, _, by rw [sgN_mk]; rfl, rfl⟩
  | nil => exact ⟨_, _, by rw [sgN_mk]; rfl, rfl⟩
  | var h => exact ⟨_, _, by rw [sgN_mk]; rfl, rfl⟩
  | call h h16 hk ih => exact ⟨_, _, sgN_call _ _, rfl⟩
  | @bin d da db x a b hx ha fa hb fb iha ihb =>
    rw [sgN_bin]
    by_cases hr : rankN a < raO (lvO x)
    · exact ⟨_, _, by rw [sgI_br hr]; rfl, rfl⟩
    · obtain ⟨g, L, h1, h2⟩ := iha
      exact ⟨g, _, by rw [sgI_bare (by omega), h1]; rfl, h2⟩
  | un hx hd hk fk ih =>
    rw [sgN_un]
    rcases hx with rfl | rfl
    · exact ⟨_, _, rfl, rfl⟩
    · exact ⟨_, _, rfl, rfl⟩
theorem head_not {g : Sg} (h : headB g = true) {x : List UInt8} (hx : x ≠ [110, 105, 108] ∧ x ≠ [110, 111, 116] ∧ x ≠ [40] ∧ x ≠ [45]) : ¬ (g.text = x ∧ (g.kind = 2 ∨ g.kind = 5)) := by
  rintro ⟨rfl, hk⟩
  obtain ⟨h1, h2, h3, h4⟩ := hx
  unfold headB at h
  rcases hk with hk | hk
  · rw [hk] at h
    simp [h1, h2] at h
  · rw [hk] at h
    simp [h3, h4] at h
theorem rowG_cons (x : List Sg) (r : List (List Sg)) (h : r ≠ []) : rowG (x :: r) = x ++ mkG [44] :: rowG r := by
  cases r with
  | nil => exact absurd rfl h
  | cons y r => rfl
/-- A list, read back. -/
theorem lsR {rd : PSt → Nd × PSt} {d M : Nat} : ∀ (ks : List Nd) (f : Nat) (out : List Nd) (A R : List (Sg × Nat)), ks ≠ [] → (∀ k ∈ ks, ∀ B R', B.map (·.1) = sgN k → B.length + R'.length ≤ M → stpR 0 R' → rd ⟨B ++ R', d, 0⟩ = (k, ⟨R', d, 0⟩)) → A.map (·.1) = rowG (ks.map sgN) ++ [mkG [41]] → A.length + R.length ≤ M → ks.length ≤ f → lsLoop rd f out ⟨A ++ R, d, 0⟩ = (out ++ ks, ⟨R, d, 0⟩)
  | [], f, out, A, R, h, _, _, _, _ => absurd rfl h
  | [k], f, out, A, R, _, hr, hA, hl, hf => by
    obtain ⟨f, rfl⟩ : ∃ f', f = f' + 1 := ⟨f - 1, by simp at hf; omega⟩
    obtain ⟨B, C, rfl, h1, h2⟩ := spl hA
    obtain ⟨a, C, rfl, h3⟩ := spc h2
    obtain rfl : C = [] := by simpa using h3
    have e : B ++ [(mkG [41], a)] ++ R = B ++ (mkG [41], a) :: R := by simp
    have hrd := hr k (List.mem_cons_self ..) B ((mkG [41], a) :: R) h1 (by simp at hl ⊢; omega) (stpR_mk (by decide) _ _)
    rw [lsLoop, if_pos rfl, e, hrd]
    simp only
    rw [mk_is, if_pos rfl]
  | k :: k2 :: r, f, out, A, R, _, hr, hA, hl, hf => by
    obtain ⟨f, rfl⟩ : ∃ f', f = f' + 1 := ⟨f - 1, by simp at hf; omega⟩
    rw [List.map_cons, rowG_cons _ _ (by simp), List.append_assoc, List.cons_append] at hA
    obtain ⟨B, C, rfl, h1, h2⟩ := spl hA
    obtain ⟨a, C, rfl, h3⟩ := spc h2
    have e : B ++ (mkG [44], a) :: C ++ R = B ++ (mkG [44], a) :: (C ++ R) := by simp
    have hrd := hr k (List.mem_cons_self ..) B ((mkG [44], a) :: (C ++ R)) h1 (by simp at hl ⊢; omega) (stpR_mk (by decide) _ _)
    have ih := lsR (k2 :: r) f (out ++ [k]) C R (by simp) (fun k' hk' => hr k' (List.mem_cons_of_mem _ hk')) h3 (by simp at hl ⊢; omega) (by simp at hf ⊢; omega)
    rw [lsLoop, if_pos rfl, e, hrd]
    simp only
    rw [isS_mis (by decide)]
    simp only
    rw [if_neg (by decide), mk_must, ih]
    simp
theorem rowG_ge : ∀ l : List (List Sg), l.length ≤ (rowG l).length + 1
  | [] => by simp
  | [x] => by simp [rowG]
  | x :: y :: r => by
    have := rowG_ge (y :: r)
    rw [rowG]
    simp only [List.length_cons, List.length_append] at this ⊢
    omega
theorem listR {rd : PSt → Nd × PSt} {d M : Nat} (ks : List Nd) (A R : List (Sg × Nat)) (hh : ∀ k ∈ ks, ∃ g L, sgN k = g :: L ∧ headB g = true) (hr : ∀ k ∈ ks, ∀ B R', B.map (·.1) = sgN k → B.length + R'.length ≤ M → stpR 0 R' → rd ⟨B ++ R', d, 0⟩ = (k, ⟨R', d, 0⟩)) (hA : A.map (·.1) = rowG (ks.map sgN) ++ [mkG [41]]) (hl : A.length + R.length ≤ M) : listS rd ⟨A ++ R, d, 0⟩ = (ks, ⟨R, d, 0⟩) := by
  cases ks with
  | nil =>
    obtain ⟨a, C, rfl, h3⟩ := spc hA
    obtain rfl : C = [] := by simpa using h3
    unfold listS
    rw [show [(mkG [41], a)] ++ R = (mkG [41], a) :: R by rfl, mk_is, if_pos rfl]
  | cons k r =>
    have hlen : (k :: r).length ≤ A.length := by
      have h1 := rowG_ge ((k :: r).map sgN)
      have h2 := congrArg List.length hA
      simp only [List.length_map, List.length_append, List.length_cons, List.length_nil] at h1 h2 ⊢
      omega
    obtain ⟨g, L, h1, h2⟩ := hh k (List.mem_cons_self ..)
    have hf : (isS [41] ⟨A ++ R, d, 0⟩).1 = false := by
      have : ∃ L', rowG ((k :: r).map sgN) ++ [mkG [41]] = g :: L' := by
        rw [List.map_cons, h1]
        cases r.map sgN with
        | nil => exact ⟨_, rfl⟩
        | cons y r => exact ⟨_, rfl⟩
      obtain ⟨L', hL⟩ := this
      rw [hL] at hA
      obtain ⟨a, C, rfl, h3⟩ := spc hA
      rw [List.cons_append, isS_mis (head_not h2 (by decide))]
    unfold listS
    rw [hf, if_neg (by decide)]
    have := lsR (rd := rd) (d := d) (M := M) (k :: r) ((A ++ R).length + 2) [] A R (by simp) hr hA hl (by rw [List.length_append]; omega)
    rw [this]
    rfl
theorem deepR {rd : PSt → Nd × PSt} {d : Nat} {l R : List (Sg × Nat)} {n : Nd} (hd : d < 16) (h : rd ⟨l, d + 1, 0⟩ = (n, ⟨R, d + 1, 0⟩)) : deepS rd ⟨l, d, 0⟩ = (n, ⟨R, d, 0⟩) := by
  have hE : deepE ⟨l, d, 0⟩ = ⟨l, d, 0⟩ := by unfold deepE; rw [if_neg (by simp only; omega)]
  unfold deepS
  rw [hE, if_neg (by simp)]
  simp only [h]
  rfl
theorem prim_br {un : PSt → Nd × PSt} {d : Nat} {A R : List (Sg × Nat)} {n : Nd} (hd : d < 16) (hA : A.map (·.1) = mkG [40] :: (sgN n ++ [mkG [41]])) (h : ∀ B R', B.map (·.1) = sgN n → B.length + R'.length < A.length + R.length → stpR 0 R' → levS un 5 ⟨B ++ R', d + 1, 0⟩ = (n, ⟨R', d + 1, 0⟩)) : primS un ⟨A ++ R, d, 0⟩ = (n, ⟨R, d, 0⟩) := by
  obtain ⟨a, C, rfl, h1⟩ := spc hA
  obtain ⟨B, D, rfl, h2, h3⟩ := spl h1
  obtain ⟨b, D, rfl, h4⟩ := spc h3
  obtain rfl : D = [] := by simpa using h4
  have e : (mkG [40], a) :: (B ++ [(mkG [41], b)]) ++ R = (mkG [40], a) :: (B ++ (mkG [41], b) :: R) := by simp
  have h5 := deepR hd (h B ((mkG [41], b) :: R) h2 (by simp; omega) (stpR_mk (by decide) _ _))
  rw [e]
  unfold primS takeS
  simp only
  rw [if_neg (by simp [mkG]), if_neg (by simp [mkG])]
  simp only
  rw [isS_mis (by decide)]
  simp only
  rw [if_neg (by decide), mk_is, if_pos rfl, h5]
  simp only
  rw [mk_must]
end Go.Proofs.YtpbiblhkcomekaaGreat

/- TreeBack, in plain words: expressions are read back. -/
namespace Go.Proofs.YtpbiblhkcomekaaGreat
open Go Go.RowKit
set_option linter.unusedSimpArgs false
set_option linter.unusedVariables false
set_option maxRecDepth 20000
/-- An expression at a level, read back. -/
def RB (n : Nd) : Prop := ∀ (d r dn fuel : Nat) (A R : List (Sg × Nat)), r ≤ 5 → dpI d r n dn → FitE dn n → A.map (·.1) = sgI r n → A.length + R.length < fuel → stpR r R → levS (unS fuel) (5 - r) ⟨A ++ R, d, 0⟩ = (n, ⟨R, d, 0⟩)
/-- One at a level with more of the level behind it. -/
def CB (n : Nd) : Prop := ∀ (d i dn fuel : Nat) (A R : List (Sg × Nat)), i ≤ 4 → i ≠ 2 → dpI d i n dn → FitE dn n → A.map (·.1) = sgI i n → A.length + R.length < fuel → stpR (i + 1) R → ∃ f, R.length < f ∧ levS (unS fuel) (5 - i) ⟨A ++ R, d, 0⟩ = lvLoop i (levS (unS fuel) (4 - i)) f n ⟨R, d, 0⟩
theorem unS_prim {m a d : Nat} {g : Sg} {R : List (Sg × Nat)} (h1 : ¬ (g.text = [110, 111, 116] ∧ (g.kind = 2 ∨ g.kind = 5))) (h2 : ¬ (g.text = [45] ∧ (g.kind = 2 ∨ g.kind = 5))) : unS (m + 1) ⟨(g, a) :: R, d, 0⟩ = primS (unS m) ⟨(g, a) :: R, d, 0⟩ := by
  rw [unS, isS_mis h1]
  simp only
  rw [if_neg (by decide), isS_mis h2]
  simp only
  rw [if_neg (by decide)]
theorem stp_par {r d : Nat} {R : List (Sg × Nat)} (h : stpR r R) : isS [40] ⟨R, d, 0⟩ = (false, ⟨R, d, 0⟩) := by
  cases R with
  | nil => rfl
  | cons p R' =>
    obtain ⟨g, a⟩ := p
    refine isS_mis ?_ a R' d
    rintro ⟨h1, h2⟩
    have hc := h g a R' rfl
    unfold contB at hc
    rw [show (g.kind == 2 || g.kind == 5) = true by simpa using h2, h1] at hc
    simp at hc
theorem prim_name {un : PSt → Nd × PSt} {a d : Nat} {x : List UInt8} {R : List (Sg × Nat)} : primS un ⟨(nmG x, a) :: R, d, 0⟩ = if (isS [40] ⟨R, d, 0⟩).1 then (.mk 12 x 0 (listS (deepS (levS un 5)) (isS [40] ⟨R, d, 0⟩).2).1, (listS (deepS (levS un 5)) (isS [40] ⟨R, d, 0⟩).2).2) else (.mk 11 x 0 [], ⟨R, d, 0⟩) := by
  unfold primS takeS
  simp only
  rw [if_neg (by simp [nmG]), if_neg (by simp [nmG])]
  simp only
  rw [isS_mis (by simp [nmG])]
  simp only
  rw [if_neg (by decide), isS_mis (by simp [nmG])]
  simp only
  rw [if_neg (by decide), nmS_hit]
theorem lvO_le (x : List UInt8) : lvO x ≤ 4 := by
  unfold lvO
  repeat' split
  all_goals omega
theorem rank_bin (x : List UInt8) (a b : Nd) : rankN (.mk 13 x 0 [a, b]) = lvO x := rfl
theorem cntN_kid {op : Nat} {tx : List UInt8} {nm : Nat} {ks : List Nd} {k : Nd} (h : k ∈ ks) : cntN k < cntN (.mk op tx nm ks) := by
  rw [cntN]
  have : ∀ l : List Nd, k ∈ l → cntN k ≤ cntL l := by
    intro l
    induction l with
    | nil => intro h; cases h
    | cons y r ih =>
      intro h
      rw [cntL]
      rcases List.mem_cons.1 h with rfl | h
      · omega
      · have := ih h; omega
  have := this ks h
  omega
/-- An expression without brackets of its own, at its own level. -/
theorem baseB {n : Nd} (ih : ∀ k, cntN k < cntN n → RB k ∧ CB k) {d fuel : Nat} {A R : List (Sg × Nat)} (hf : FitE d n) (hA : A.map (·.1) = sgN n) (hl : A.length + R.length < fuel) (hs : stpR (min (rankN n) 5) R) : levS (unS fuel) (5 - min (rankN n) 5) ⟨A ++ R, d, 0⟩ = (n, ⟨R, d, 0⟩) := by
  obtain ⟨m, rfl⟩ : ∃ m, fuel = m + 1 := ⟨fuel - 1, by omega⟩
  cases hf with
  | num h =>
    rw [sgN_mk] at hA
    obtain ⟨a, C, rfl, h1⟩ := spc hA
    obtain rfl : C = [] := by simpa using h1
    show unS (m + 1) ⟨(nuG _, a) :: R, d, 0⟩ = _
    rw [unS_prim (by simp [nuG]) (by simp [nuG])]
    rfl
  | text h hl =>
    rw [sgN_mk] at hA
    obtain ⟨a, C, rfl, h1⟩ := spc hA
    obtain rfl : C = [] := by simpa using h1
    show unS (m + 1) ⟨(txG _, a) :: R, d, 0⟩ = _
    rw [unS_prim (by simp [txG]) (by simp [txG])]
    rfl
  | nil =>
    rw [sgN_mk] at hA
    obtain ⟨a, C, rfl, h1⟩ := spc hA
    obtain rfl : C = [] := by simpa using h1
    show unS (m + 1) ⟨(wdG [110, 105, 108], a) :: R, d, 0⟩ = _
    rw [unS_prim (by decide) (by decide)]
    rfl
  | var h =>
    rw [sgN_mk] at hA
    obtain ⟨a, C, rfl, h1⟩ := spc hA
    obtain rfl : C = [] := by simpa using h1
    show unS (m + 1) ⟨(nmG _, a) :: R, d, 0⟩ = _
    rw [unS_prim (by simp [nmG]) (by simp [nmG]), prim_name, stp_par hs]
    rfl
  | @call _ x ks h h16 hk =>
    rw [sgN_call] at hA
    obtain ⟨a, C, rfl, h1⟩ := spc hA
    obtain ⟨b, C, rfl, h2⟩ := spc h1
    show unS (m + 1) ⟨(nmG x, a) :: (mkG [40], b) :: (C ++ R), d, 0⟩ = _
    rw [unS_prim (by simp [nmG]) (by simp [nmG]), prim_name, mk_is, if_pos rfl]
    have hL := listR (rd := deepS (levS (unS m) 5)) (d := d) (M := C.length + R.length) ks C R (fun k hm => headE (hk k hm)) (fun k hm B R' hB hlen hst => deepR (h16 k hm) ((ih k (cntN_kid hm)).1 (d + 1) 0 (d + 1) m B R' (by omega) (.inl ⟨Nat.zero_le _, rfl⟩) (hk k hm) (by rw [sgI_bare (Nat.zero_le _)]; exact hB) (by simp only [List.length_cons] at hl; omega) hst)) h2 (Nat.le_refl _)
    rw [hL]
  | @un _ dk x k hx hd hk fk =>
    rw [sgN_un] at hA
    obtain ⟨a, C, rfl, h1⟩ := spc hA
    have hr := deepR hd ((ih k (cntN_kid (List.mem_cons_self ..))).1 (d + 1) 5 dk m C R (by omega) hk fk h1 (by simp only [List.length_cons] at hl; omega) hs)
    show unS (m + 1) ⟨(opG x, a) :: (C ++ R), d, 0⟩ = _
    have hr : deepS (unS m) ⟨C ++ R, d, 0⟩ = (k, ⟨R, d, 0⟩) := hr
    rcases hx with rfl | rfl
    · rw [unS, show opG [110, 111, 116] = wdG [110, 111, 116] from rfl, wd_is, if_pos rfl, hr]
    · rw [unS, show opG [45] = mkG [45] from rfl, isS_mis (by decide)]
      simp only
      rw [if_neg (by decide), mk_is, if_pos rfl, hr]
  | @bin _ da db x a b hx ha fa hb fb =>
    have hi := lvO_le x
    rw [rank_bin, Nat.min_eq_left (by omega)] at hs ⊢
    rw [sgN_bin] at hA
    obtain ⟨B, C, rfl, h1, h2⟩ := spl hA
    obtain ⟨p, C, rfl, h3⟩ := spc h2
    have ca := cntN_kid (op := 13) (tx := x) (nm := 0) (ks := [a, b]) (k := a) (by simp)
    have cb := cntN_kid (op := 13) (tx := x) (nm := 0) (ks := [a, b]) (k := b) (by simp)
    obtain ⟨ra, qa⟩ := ih a ca
    obtain ⟨rb, qb⟩ := ih b cb
    have e : B ++ (opG x, p) :: C ++ R = B ++ (opG x, p) :: (C ++ R) := by simp
    have hlen : B.length + ((opG x, p) :: (C ++ R)).length < m + 1 := by
      simp only [List.length_append, List.length_cons] at hl ⊢
      omega
    have hlc : C.length + R.length < m + 1 := by
      simp only [List.length_append, List.length_cons] at hlen ⊢
      omega
    have hB := rb d (lvO x + 1) db (m + 1) C R (by omega) hb fb h3 hlc (hs.le (by omega))
    rw [show 5 - (lvO x + 1) = 4 - lvO x by omega] at hB
    by_cases h2 : lvO x = 2
    · rw [h2] at ha h1 hB hx hs ⊢
      have hA3 := ra d 3 da (m + 1) B ((opG x, p) :: (C ++ R)) (by omega) ha fa h1 hlen (stpR_op (i := 2) (by omega) hx p _)
      rw [e, levS_succ _ (by omega : 2 ≤ 4), show 4 - 2 = 5 - 3 by omega, hA3]
      simp only [List.length_cons]
      rw [lvLoop, opS_hit (opG_text x) (opG_kind x) p _ d hx]
      simp only
      rw [if_pos trivial, show 5 - 3 = 4 - 2 by omega, hB]
    · have hra : raO (lvO x) = lvO x := by unfold raO; rw [if_neg h2]
      rw [hra] at ha h1
      obtain ⟨f, hf, hq⟩ := qa d (lvO x) da (m + 1) B ((opG x, p) :: (C ++ R)) hi h2 ha fa h1 hlen (stpR_op hi hx p _)
      obtain ⟨f, rfl⟩ : ∃ f', f = f' + 1 := ⟨f - 1, by omega⟩
      rw [e, hq, lvLoop, opS_hit (opG_text x) (opG_kind x) p _ d hx]
      simp only
      rw [if_neg h2, hB]
      exact lv_stop hi hs _
theorem bare_all {n : Nd} (ih : ∀ k, cntN k < cntN n → RB k ∧ CB k) {d r fuel : Nat} {A R : List (Sg × Nat)} (hr : r ≤ 5) (hb : r ≤ rankN n) (hf : FitE d n) (hA : A.map (·.1) = sgN n) (hl : A.length + R.length < fuel) (hs : stpR r R) : levS (unS fuel) (5 - r) ⟨A ++ R, d, 0⟩ = (n, ⟨R, d, 0⟩) :=
  down (min (rankN n) 5) r (by omega) (by omega) (baseB ih hf hA hl (hs.le (by omega))) hs
theorem brk_all {n : Nd} (ih : ∀ k, cntN k < cntN n → RB k ∧ CB k) {d r fuel : Nat} {A R : List (Sg × Nat)} (hr : r ≤ 5) (hb : rankN n < r) (hd : d < 16) (hf : FitE (d + 1) n) (hA : A.map (·.1) = mkG [40] :: (sgN n ++ [mkG [41]])) (hl : A.length + R.length < fuel) (hs : stpR r R) : levS (unS fuel) (5 - r) ⟨A ++ R, d, 0⟩ = (n, ⟨R, d, 0⟩) := by
  refine down 5 r (by omega) hr ?_ hs
  obtain ⟨m, rfl⟩ : ∃ m, fuel = m + 1 := ⟨fuel - 1, by omega⟩
  show unS (m + 1) ⟨A ++ R, d, 0⟩ = _
  have hp := prim_br (un := unS m) (R := R) hd hA (fun B R' hB hlen hst => bare_all ih (r := 0) (by omega) (Nat.zero_le _) hf hB (by omega) hst)
  obtain ⟨a, C, rfl, h1⟩ := spc hA
  rw [List.cons_append] at hp ⊢
  rw [unS_prim (by decide) (by decide)]
  exact hp
theorem reads : ∀ (N : Nat) (n : Nd), cntN n ≤ N → RB n ∧ CB n
  | 0, n, h => by have := cntN_pos n; omega
  | N + 1, n, h => by
    have ih : ∀ k, cntN k < cntN n → RB k ∧ CB k := fun k hk => reads N k (by omega)
    have hRB : RB n := fun d r dn fuel A R hr hd hf hA hl hs => by
      rcases hd with ⟨h1, rfl⟩ | ⟨h1, h2, rfl⟩
      · rw [sgI_bare h1] at hA
        exact bare_all ih hr h1 hf hA hl hs
      · rw [sgI_br h1] at hA
        exact brk_all ih hr h1 h2 hf hA hl hs
    refine ⟨hRB, fun d i dn fuel A R hi h2 hd hf hA hl hs => ?_⟩
    by_cases hri : rankN n = i
    · obtain ⟨m, rfl⟩ : ∃ m, fuel = m + 1 := ⟨fuel - 1, by omega⟩
      rcases hd with ⟨_, rfl⟩ | ⟨q, _⟩
      · rw [sgI_bare (by omega)] at hA
        cases hf with
        | num h => exact absurd hri (by show ¬ 6 = i; omega)
        | text h hl => exact absurd hri (by show ¬ 6 = i; omega)
        | nil => exact absurd hri (by show ¬ 6 = i; omega)
        | var h => exact absurd hri (by show ¬ 6 = i; omega)
        | call h h16 hk => exact absurd hri (by show ¬ 6 = i; omega)
        | un hx hd hk fk => exact absurd hri (by show ¬ 5 = i; omega)
        | @bin _ da db x a b hx ha fa hb fb =>
          have hri : lvO x = i := hri
          subst hri
          have hra : raO (lvO x) = lvO x := by unfold raO; rw [if_neg h2]
          rw [hra] at ha
          rw [sgN_bin, hra] at hA
          obtain ⟨B, C, rfl, h1, h3⟩ := spl hA
          obtain ⟨p, C, rfl, h4⟩ := spc h3
          have ca := cntN_kid (op := 13) (tx := x) (nm := 0) (ks := [a, b]) (k := a) (by simp)
          have cb := cntN_kid (op := 13) (tx := x) (nm := 0) (ks := [a, b]) (k := b) (by simp)
          have e : B ++ (opG x, p) :: C ++ R = B ++ (opG x, p) :: (C ++ R) := by simp
          have hlen : B.length + ((opG x, p) :: (C ++ R)).length < m + 1 := by
            simp only [List.length_append, List.length_cons] at hl ⊢
            omega
          have hlc : C.length + R.length < m + 1 := by
            simp only [List.length_append, List.length_cons] at hlen ⊢
            omega
          have hB := (ih b cb).1 dn (lvO x + 1) db (m + 1) C R (by omega) hb fb h4 hlc hs
          rw [show 5 - (lvO x + 1) = 4 - lvO x by omega] at hB
          obtain ⟨f, hf, hq⟩ := (ih a ca).2 dn (lvO x) da (m + 1) B ((opG x, p) :: (C ++ R)) hi h2 ha fa h1 hlen (stpR_op hi hx p _)
          obtain ⟨f, rfl⟩ : ∃ f', f = f' + 1 := ⟨f - 1, by omega⟩
          refine ⟨f, by simp only [List.length_append, List.length_cons] at hf; omega, ?_⟩
          rw [e, hq, lvLoop, opS_hit (opG_text x) (opG_kind x) p _ dn hx]
          simp only
          rw [if_neg h2, hB]
      · omega
    · have hd' : dpI d (i + 1) n dn := by
        rcases hd with ⟨q, e⟩ | ⟨q, e⟩
        · exact .inl ⟨by omega, e⟩
        · exact .inr ⟨by omega, e⟩
      have hA' : A.map (·.1) = sgI (i + 1) n := by
        rw [hA]
        unfold sgI
        by_cases q : rankN n < i
        · rw [decide_eq_true q, decide_eq_true (by omega)]
        · rw [decide_eq_false q, decide_eq_false (by omega)]
      have hh := hRB d (i + 1) dn fuel A R (by omega) hd' hf hA' hl hs
      rw [show 5 - (i + 1) = 4 - i by omega] at hh
      refine ⟨R.length + 1, by omega, ?_⟩
      rw [levS_succ _ hi, hh]
/-- An expression, read back. -/
theorem exR {d : Nat} {n : Nd} {A R : List (Sg × Nat)} (hf : FitE d n) (hA : A.map (·.1) = sgN n) (hs : stpR 0 R) : exS ⟨A ++ R, d, 0⟩ = (n, ⟨R, d, 0⟩) :=
  (reads (cntN n) n (Nat.le_refl _)).1 d 0 d _ A R (by omega) (.inl ⟨Nat.zero_le _, rfl⟩) hf (by rw [sgI_bare (Nat.zero_le _)]; exact hA) (by simp only [List.length_append]; omega) hs
end Go.Proofs.YtpbiblhkcomekaaGreat

/- TreeBack, in plain words: statements, blocks, handlers and scripts are read back. -/
namespace Go.Proofs.YtpbiblhkcomekaaGreat
open Go Go.RowKit
set_option linter.unusedSimpArgs false
set_option linter.unusedVariables false
set_option maxRecDepth 20000
def isSetL : List Sg → Bool
  | g :: h :: _ => decide (g.kind = 1) && decide (h.kind = 5) && decide (h.text = [61])
  | _ => false
theorem isSet_eq (A : List (Sg × Nat)) (d e : Nat) : isSet ⟨A, d, e⟩ = isSetL (A.map (·.1)) := by
  match A with
  | [] => rfl
  | [p] => rfl
  | p :: q :: r => rfl
theorem op_ne : ∀ i, i ≤ 4 → ∀ x ∈ opL i, x ≠ [61] := by
  intro i hi
  match i, hi with
  | 0, _ => decide
  | 1, _ => decide
  | 2, _ => decide
  | 3, _ => decide
  | 4, _ => decide
theorem op_kind1 (x : List UInt8) : (opG x).kind ≠ 1 := by
  rcases opG_kind x with h | h <;> rw [h] <;> decide
theorem noSet {d : Nat} {n : Nd} (h : FitE d n) : ∀ (g : Sg) (T : List Sg), ¬ (g.kind = 5 ∧ g.text = [61]) → isSetL (sgN n ++ g :: T) = false := by
  induction h with
  | num h => intro g T hg; rw [sgN_mk]; rfl
  | text h hl => intro g T hg; rw [sgN_mk]; rfl
  | nil => intro g T hg; rw [sgN_mk]; rfl
  | var h =>
    intro g T hg
    rw [sgN_mk]
    simp only [bldG, List.cons_append, List.nil_append, isSetL]
    by_cases h1 : g.kind = 5
    · by_cases h2 : g.text = [61]
      · exact absurd ⟨h1, h2⟩ hg
      · simp [h2]
    · simp [h1]
  | call h h16 hk ih => intro g T hg; rw [sgN_call]; rfl
  | @bin d da db x a b hx ha fa hb fb iha ihb =>
    intro g T hg
    rw [sgN_bin, List.append_assoc, List.cons_append]
    by_cases hr : rankN a < raO (lvO x)
    · rw [sgI_br hr]
      cases sgN a <;> rfl
    · rw [sgI_bare (by omega)]
      refine iha _ _ ?_
      rw [opG_text]
      exact fun q => op_ne _ (lvO_le x) x hx q.2
  | @un d dk x k hx hd hk fk ih =>
    intro g T hg
    rw [sgN_un, List.cons_append]
    have := op_kind1 x
    cases hq : sgI 5 k ++ g :: T with
    | nil => rfl
    | cons y r => simp [isSetL, this]
def noElse (R : List (Sg × Nat)) : Prop := ∀ g a R', R = (g, a) :: R' → ¬ (g.text = [101, 108, 115, 101] ∧ (g.kind = 2 ∨ g.kind = 5))
theorem else_no {R : List (Sg × Nat)} {d : Nat} (h : noElse R) : isS [101, 108, 115, 101] ⟨R, d, 0⟩ = (false, ⟨R, d, 0⟩) := by
  cases R with
  | nil => rfl
  | cons p R' =>
    obtain ⟨g, a⟩ := p
    exact isS_mis (h g a R' rfl) a R' d
/-- How a statement begins. -/
def headT (g : Sg) : Bool := headB g || (g.kind == 2 && (g.text == [105, 102] || g.text == [119, 104, 105, 108, 101] || g.text == [115, 116, 111, 112]))
theorem headT_not {g : Sg} (h : headT g = true) {x : List UInt8} (hx : x = [125] ∨ x = [101, 108, 115, 101]) : ¬ (g.text = x ∧ (g.kind = 2 ∨ g.kind = 5)) := by
  rintro ⟨h1, hk⟩
  unfold headT at h
  rw [Bool.or_eq_true] at h
  rcases h with h | h
  · rcases hx with rfl | rfl
    · exact head_not h (by decide) ⟨h1, hk⟩
    · exact head_not h (by decide) ⟨h1, hk⟩
  · rw [h1] at h
    rcases hx with rfl | rfl <;> simp at h
theorem headS {d : Nat} {n : Nd} (h : FitS 0 d n) : ∃ g L, sgN n = g :: L ∧ headT g = true := by
  cases h with
  | set h hn => exact ⟨_, _, by rw [sgN_mk]; rfl, rfl⟩
  | do_ hn =>
    obtain ⟨g, L, h1, h2⟩ := headE hn
    refine ⟨g, L ++ [mkG [59]], ?_, by unfold headT; rw [h2]; rfl⟩
    rw [sgN_mk]
    simp only [bldG, List.map_cons, List.map_nil, List.getD_cons_zero, h1]
    rfl
  | if2 hn hb => exact ⟨_, _, by rw [sgN_mk]; rfl, rfl⟩
  | if3 hn hb hc => exact ⟨_, _, by rw [sgN_mk]; rfl, rfl⟩
  | while_ hn hb => exact ⟨_, _, by rw [sgN_mk]; rfl, rfl⟩
  | stop => exact ⟨_, _, by rw [sgN_mk]; rfl, rfl⟩
theorem noElse_of {g : Sg} {a : Nat} {R : List (Sg × Nat)} (h : ¬ (g.text = [101, 108, 115, 101] ∧ (g.kind = 2 ∨ g.kind = 5))) : noElse ((g, a) :: R) := fun g' b R' e => by
  injection e with e1 e2
  injection e1 with e1 e3
  subst e1
  exact h
theorem stR {st : PSt → Nd × PSt} {d M : Nat} : ∀ (ks : List Nd) (f : Nat) (out : List Nd) (A R : List (Sg × Nat)), (∀ k ∈ ks, ∃ g L, sgN k = g :: L ∧ headT g = true) → (∀ k ∈ ks, ∀ B R', B.map (·.1) = sgN k → B.length + R'.length ≤ M → noElse R' → st ⟨B ++ R', d, 0⟩ = (k, ⟨R', d, 0⟩)) → A.map (·.1) = (ks.map sgN).flatten ++ [mkG [125]] → A.length + R.length ≤ M → ks.length < f → stLoop st f out ⟨A ++ R, d, 0⟩ = (out ++ ks, ⟨R, d, 0⟩)
  | [], f, out, A, R, hh, hr, hA, hl, hf => by
    obtain ⟨f, rfl⟩ : ∃ f', f = f' + 1 := ⟨f - 1, by simp at hf; omega⟩
    obtain ⟨a, C, rfl, h3⟩ := spc hA
    obtain rfl : C = [] := by simpa using h3
    rw [stLoop, if_pos rfl, show [(mkG [125], a)] ++ R = (mkG [125], a) :: R by rfl, mk_is, if_pos rfl, List.append_nil]
  | k :: r, f, out, A, R, hh, hr, hA, hl, hf => by
    obtain ⟨f, rfl⟩ : ∃ f', f = f' + 1 := ⟨f - 1, by simp at hf; omega⟩
    rw [List.map_cons, List.flatten_cons, List.append_assoc] at hA
    obtain ⟨B, C, rfl, h1, h2⟩ := spl hA
    have hne : noElse (C ++ R) := by
      cases r with
      | nil =>
        obtain ⟨a, C, rfl, h3⟩ := spc h2
        exact noElse_of (by decide)
      | cons k2 r =>
        obtain ⟨g, L, g1, g2⟩ := hh k2 (by simp)
        rw [List.map_cons, List.flatten_cons, g1] at h2
        obtain ⟨a, C, rfl, h3⟩ := spc h2
        exact noElse_of (headT_not g2 (.inr rfl))
    have hrd := hr k (List.mem_cons_self ..) B (C ++ R) h1 (by simp at hl ⊢; omega) hne
    have ih := stR r f (out ++ [k]) C R (fun k' hk' => hh k' (List.mem_cons_of_mem _ hk')) (fun k' hk' => hr k' (List.mem_cons_of_mem _ hk')) h2 (by simp at hl ⊢; omega) (by simp at hf ⊢; omega)
    obtain ⟨g, L, g1, g2⟩ := hh k (List.mem_cons_self ..)
    have hf2 : (isS [125] ⟨B ++ (C ++ R), d, 0⟩).1 = false := by
      rw [g1] at h1
      obtain ⟨a, B, rfl, h3⟩ := spc h1
      rw [List.cons_append, isS_mis (headT_not g2 (.inl rfl))]
    rw [stLoop, if_pos rfl, List.append_assoc, hf2, if_neg (by decide), hrd]
    simp only
    rw [ih]
    simp
theorem flat_ge : ∀ ks : List Nd, (∀ k ∈ ks, ∃ g L, sgN k = g :: L ∧ headT g = true) → ks.length ≤ (ks.map sgN).flatten.length
  | [], _ => Nat.le_refl _
  | k :: r, h => by
    have ih := flat_ge r fun k' hk' => h k' (List.mem_cons_of_mem _ hk')
    obtain ⟨g, L, g1, g2⟩ := h k (List.mem_cons_self ..)
    rw [List.map_cons, List.flatten_cons, List.length_append, g1, List.length_cons, List.length_cons]
    omega
/-- Statements, and blocks, read back. -/
def SB (n : Nd) : Prop := ∀ (d fuel : Nat) (A R : List (Sg × Nat)), A.map (·.1) = sgN n → A.length + R.length < fuel → (FitS 0 d n → noElse R → stmtS (blS fuel) ⟨A ++ R, d, 0⟩ = (n, ⟨R, d, 0⟩)) ∧ (FitS 1 d n → blS fuel ⟨A ++ R, d, 0⟩ = (n, ⟨R, d, 0⟩))
theorem stp_semi (r a : Nat) (R : List (Sg × Nat)) : stpR r ((mkG [59], a) :: R) := stpR_mk (by decide) a R
theorem block_head {d : Nat} {b : Nd} (h : FitS 1 d b) : ∃ L, sgN b = mkG [123] :: L := by
  cases h with
  | block hd hk => exact ⟨_, by rw [sgN_mk]; rfl⟩
theorem stp_block {d : Nat} {b : Nd} (h : FitS 1 d b) {B R : List (Sg × Nat)} (hB : B.map (·.1) = sgN b) : stpR 0 (B ++ R) := by
  obtain ⟨L, hL⟩ := block_head h
  rw [hL] at hB
  obtain ⟨a, C, rfl, h3⟩ := spc hB
  exact stpR_mk (by decide) a _
theorem stmts_back : ∀ (N : Nat) (n : Nd), cntN n ≤ N → SB n
  | 0, n, h => by have := cntN_pos n; omega
  | N + 1, n, h => fun d fuel A R hA hl => by
    have ih : ∀ k, cntN k < cntN n → SB k := fun k hk => stmts_back N k (by omega)
    refine ⟨fun hf hne => ?_, fun hf => ?_⟩
    · cases hf with
      | @set _ x e h hn =>
        rw [sgN_mk] at hA
        obtain ⟨a, C, rfl, h1⟩ := spc hA
        obtain ⟨b, C, rfl, h2⟩ := spc h1
        obtain ⟨B, D, rfl, h3, h4⟩ := spl h2
        obtain ⟨c, D, rfl, h5⟩ := spc h4
        obtain rfl : D = [] := by simpa using h5
        have e1 : (nmG x, a) :: (mkG [61], b) :: (B ++ [(mkG [59], c)]) ++ R = (nmG x, a) :: (mkG [61], b) :: (B ++ (mkG [59], c) :: R) := by simp
        rw [e1]
        unfold stmtS
        rw [isS_mis (by simp [nmG])]
        simp only
        rw [if_neg (by decide), isS_mis (by simp [nmG])]
        simp only
        rw [if_neg (by decide), isS_mis (by simp [nmG])]
        simp only
        rw [if_neg (by decide), if_pos (by rw [isSet_eq]; rfl), nmS_hit]
        simp only
        rw [mk_must, exR hn h3 (stp_semi 0 c R)]
        simp only
        rw [mk_must]
      | @do_ _ e hn =>
        rw [sgN_mk] at hA
        obtain ⟨B, D, rfl, h3, h4⟩ := spl hA
        obtain ⟨c, D, rfl, h5⟩ := spc h4
        obtain rfl : D = [] := by simpa using h5
        have h3 : B.map (·.1) = sgN e := h3
        have e1 : B ++ [(mkG [59], c)] ++ R = B ++ (mkG [59], c) :: R := by simp
        have hx := exR hn h3 (stp_semi 0 c R)
        have hset : isSet ⟨B ++ (mkG [59], c) :: R, d, 0⟩ = false := by
          rw [isSet_eq, List.map_append, List.map_cons, h3]
          exact noSet hn _ _ (by simp [mkG])
        obtain ⟨g, L, g1, g2⟩ := headE hn
        have hno : ∀ y : List UInt8, y = [105, 102] ∨ y = [119, 104, 105, 108, 101] ∨ y = [115, 116, 111, 112] → (isS y ⟨B ++ (mkG [59], c) :: R, d, 0⟩).1 = false := by
          intro y hy
          rw [g1] at h3
          obtain ⟨a, B, rfl, h6⟩ := spc h3
          rw [List.cons_append, isS_mis (head_not g2 (by rcases hy with rfl | rfl | rfl <;> decide))]
        rw [e1]
        unfold stmtS
        rw [hno _ (.inl rfl), if_neg (by decide), hno _ (.inr (.inl rfl)), if_neg (by decide), hno _ (.inr (.inr rfl)), if_neg (by decide), hset, if_neg (by decide), hx]
        simp only
        rw [mk_must]
      | @if2 _ e b hn hb =>
        rw [sgN_mk] at hA
        obtain ⟨a, C, rfl, h1⟩ := spc hA
        obtain ⟨B, D, rfl, h3, h4⟩ := spl h1
        simp only [List.map_cons, List.map_nil, List.getD_cons_zero, List.getD_cons_succ, List.length_cons, List.length_nil] at h3 h4
        rw [if_neg (by decide), List.append_nil] at h4
        have hlen : D.length + R.length < fuel := by simp at hl; omega
        have hbl := (ih b (cntN_kid (by simp)) d fuel D R h4 hlen).2 hb
        have e1 : (wdG [105, 102], a) :: (B ++ D) ++ R = (wdG [105, 102], a) :: (B ++ (D ++ R)) := by simp
        rw [e1]
        unfold stmtS
        rw [wd_is, if_pos rfl]
        simp only
        unfold ifS
        rw [exR hn h3 (stp_block hb h4)]
        simp only
        rw [hbl]
        simp only
        rw [else_no hne, if_neg (by simp)]
      | @if3 _ e b c hn hb hc =>
        rw [sgN_mk] at hA
        obtain ⟨a, C, rfl, h1⟩ := spc hA
        obtain ⟨B, D, rfl, h3, h4⟩ := spl h1
        simp only [List.map_cons, List.map_nil, List.getD_cons_zero, List.getD_cons_succ, List.length_cons, List.length_nil, if_true] at h3 h4
        obtain ⟨D, E, rfl, h5, h6⟩ := spl h4
        obtain ⟨p, E, rfl, h7⟩ := spc h6
        have hlen : D.length + ((wdG [101, 108, 115, 101], p) :: (E ++ R)).length < fuel := by simp at hl ⊢; omega
        have hlen2 : E.length + R.length < fuel := by simp at hl ⊢; omega
        have hbl := (ih b (cntN_kid (by simp)) d fuel D _ h5 hlen).2 hb
        have hcl := (ih c (cntN_kid (by simp)) d fuel E R h7 hlen2).2 hc
        have e1 : (wdG [105, 102], a) :: (B ++ (D ++ (wdG [101, 108, 115, 101], p) :: E)) ++ R = (wdG [105, 102], a) :: (B ++ (D ++ (wdG [101, 108, 115, 101], p) :: (E ++ R))) := by simp
        rw [e1]
        unfold stmtS
        rw [wd_is, if_pos rfl]
        simp only
        unfold ifS
        rw [exR hn h3 (stp_block hb h5)]
        simp only
        rw [hbl]
        simp only
        rw [wd_is, if_pos rfl]
        simp only
        rw [hcl]
      | @while_ _ e b hn hb =>
        rw [sgN_mk] at hA
        obtain ⟨a, C, rfl, h1⟩ := spc hA
        obtain ⟨B, D, rfl, h3, h4⟩ := spl h1
        simp only [List.map_cons, List.map_nil, List.getD_cons_zero, List.getD_cons_succ, List.length_cons, List.length_nil] at h3 h4
        have hlen : D.length + R.length < fuel := by simp at hl; omega
        have hbl := (ih b (cntN_kid (by simp)) d fuel D R h4 hlen).2 hb
        have e1 : (wdG [119, 104, 105, 108, 101], a) :: (B ++ D) ++ R = (wdG [119, 104, 105, 108, 101], a) :: (B ++ (D ++ R)) := by simp
        rw [e1]
        unfold stmtS
        rw [isS_mis (by decide)]
        simp only
        rw [if_neg (by decide), wd_is, if_pos rfl, exR hn h3 (stp_block hb h4)]
        simp only
        rw [hbl]
      | stop =>
        rw [sgN_mk] at hA
        obtain ⟨a, C, rfl, h1⟩ := spc hA
        obtain ⟨b, C, rfl, h2⟩ := spc h1
        obtain rfl : C = [] := by simpa using h2
        show stmtS (blS fuel) ⟨(wdG [115, 116, 111, 112], a) :: (mkG [59], b) :: R, d, 0⟩ = _
        unfold stmtS
        rw [isS_mis (by decide)]
        simp only
        rw [if_neg (by decide), isS_mis (by decide)]
        simp only
        rw [if_neg (by decide), wd_is, if_pos rfl, mk_must]
    · cases hf with
      | @block _ ks hd hk =>
        obtain ⟨m, rfl⟩ : ∃ m, fuel = m + 1 := ⟨fuel - 1, by omega⟩
        rw [sgN_mk] at hA
        obtain ⟨a, C, rfl, h1⟩ := spc hA
        have hh : ∀ k ∈ ks, ∃ g L, sgN k = g :: L ∧ headT g = true := fun k hm => headS (hk k hm)
        have hlen := flat_ge ks hh
        have hlc := congrArg List.length h1
        simp only [List.length_map, List.length_append, List.length_cons, List.length_nil] at hlc
        have hs := stR (st := stmtS (blS m)) (d := d + 1) (M := C.length + R.length) ks ((C ++ R).length + 2) [] C R hh (fun k hm B R' hB hq hne => (ih k (cntN_kid hm) (d + 1) m B R' hB (by simp only [List.length_cons] at hl; omega)).1 (hk k hm) hne) h1 (Nat.le_refl _) (by rw [List.length_append]; omega)
        show blS (m + 1) ⟨(mkG [123], a) :: (C ++ R), d, 0⟩ = _
        rw [blS]
        unfold blockS
        rw [mk_must]
        refine deepR hd ?_
        simp only
        rw [hs]
        rfl
theorem blR {d : Nat} {b : Nd} {A R : List (Sg × Nat)} (hf : FitS 1 d b) (hA : A.map (·.1) = sgN b) {fuel : Nat} (hl : A.length + R.length < fuel) : blS fuel ⟨A ++ R, d, 0⟩ = (b, ⟨R, d, 0⟩) := (stmts_back (cntN b) b (Nat.le_refl _) d fuel A R hA hl).2 hf
theorem onR {n : Nd} (h : FitO n) {A R : List (Sg × Nat)} (hA : A.map (·.1) = sgN n) : onS ⟨A ++ R, 0, 0⟩ = (n, ⟨R, 0, 0⟩) := by
  obtain ⟨x, ys, b, rfl, hx, hy, hb⟩ := h
  rw [sgN_mk] at hA
  simp only [bldG, List.map_append, List.map_cons, List.map_nil, List.dropLast_concat, List.getLastD_concat] at hA
  obtain ⟨p, A, rfl, h1⟩ := spc hA
  obtain ⟨q, A, rfl, h2⟩ := spc h1
  obtain ⟨r, A, rfl, h3⟩ := spc h2
  have h3' : A.map (·.1) = (rowG ((ys.map (fun y => Nd.mk 11 y 0 [])).map sgN) ++ [mkG [41]]) ++ sgN b := by rw [h3]; simp
  obtain ⟨B, C, rfl, h4, h5⟩ := spl h3'
  have hL := listR (rd := varS) (d := 0) (M := B.length + (C ++ R).length) (ys.map (fun y => Nd.mk 11 y 0 [])) B (C ++ R) (fun k hk => by
      obtain ⟨y, _, rfl⟩ := List.mem_map.1 hk
      exact ⟨_, _, by rw [sgN_mk]; rfl, rfl⟩) (fun k hk D R' hD _ _ => by
      obtain ⟨y, _, rfl⟩ := List.mem_map.1 hk
      rw [sgN_mk] at hD
      obtain ⟨a, D, rfl, h6⟩ := spc hD
      obtain rfl : D = [] := by simpa using h6
      rfl) h4 (Nat.le_refl _)
  have e : (wdG [111, 110], p) :: (nmG x, q) :: (mkG [40], r) :: (B ++ C) ++ R = (wdG [111, 110], p) :: (nmG x, q) :: (mkG [40], r) :: (B ++ (C ++ R)) := by simp
  rw [e]
  unfold onS
  rw [wd_must, nmS_hit]
  simp only
  rw [mk_must, hL]
  simp only
  rw [blR hb h5 (by rw [List.length_append]; omega)]
theorem on_head {n : Nd} (h : FitO n) : ∃ L, sgN n = wdG [111, 110] :: L := by
  obtain ⟨x, ys, b, rfl, hx, hy, hb⟩ := h
  exact ⟨_, by rw [sgN_mk]; rfl⟩
theorem scR : ∀ (ks : List Nd) (f : Nat) (out : List Nd) (A R : List (Sg × Nat)), (∀ k ∈ ks, FitO k) → A.map (·.1) = (ks.map sgN).flatten → endS ⟨R, 0, 0⟩ = true → ks.length < f → scLoop f out ⟨A ++ R, 0, 0⟩ = (out ++ ks, ⟨R, 0, 0⟩)
  | [], f, out, A, R, hk, hA, he, hf => by
    obtain ⟨f, rfl⟩ : ∃ f', f = f' + 1 := ⟨f - 1, by simp at hf; omega⟩
    obtain rfl : A = [] := by simpa using hA
    rw [scLoop, if_neg (by rw [List.nil_append, he]; simp), List.append_nil]
    rfl
  | k :: r, f, out, A, R, hk, hA, he, hf => by
    obtain ⟨f, rfl⟩ : ∃ f', f = f' + 1 := ⟨f - 1, by simp at hf; omega⟩
    rw [List.map_cons, List.flatten_cons] at hA
    obtain ⟨B, C, rfl, h1, h2⟩ := spl hA
    have ho := onR (hk k (List.mem_cons_self ..)) (R := C ++ R) h1
    have ih := scR r f (out ++ [k]) C R (fun k' hk' => hk k' (List.mem_cons_of_mem _ hk')) h2 he (by simp at hf ⊢; omega)
    have hen : endS ⟨B ++ (C ++ R), 0, 0⟩ = false := by
      obtain ⟨L, hL⟩ := on_head (hk k (List.mem_cons_self ..))
      rw [hL] at h1
      obtain ⟨a, B, rfl, h3⟩ := spc h1
      rfl
    rw [scLoop, List.append_assoc, if_pos ⟨rfl, hen⟩, ho]
    simp only
    rw [ih]
    simp
theorem on_ge : ∀ ks : List Nd, (∀ k ∈ ks, FitO k) → ks.length ≤ (ks.map sgN).flatten.length
  | [], _ => Nat.le_refl _
  | k :: r, h => by
    have ih := on_ge r fun k' hk' => h k' (List.mem_cons_of_mem _ hk')
    obtain ⟨L, hL⟩ := on_head (h k (List.mem_cons_self ..))
    rw [List.map_cons, List.flatten_cons, List.length_append, hL, List.length_cons, List.length_cons]
    omega
/-- A script, read back. -/
theorem scriptR {ks : List Nd} (hk : ∀ k ∈ ks, FitO k) {l : List (Sg × Nat)} (hl : l.map (·.1) = sgN (.mk 0 [] 0 ks) ++ [noSg]) : (scriptS ⟨l, 0, 0⟩).1 = .mk 0 [] 0 ks ∧ (scriptS ⟨l, 0, 0⟩).2.e = 0 := by
  rw [sgN_mk] at hl
  obtain ⟨A, R, rfl, h1, h2⟩ := spl hl
  obtain ⟨a, R, rfl, h3⟩ := spc h2
  obtain rfl : R = [] := by simpa using h3
  have h1 : A.map (·.1) = (ks.map sgN).flatten := h1
  have hlen := on_ge ks hk
  rw [← h1, List.length_map] at hlen
  unfold scriptS
  rw [scR ks _ [] A [(noSg, a)] hk h1 rfl (by rw [List.length_append]; omega)]
  exact ⟨rfl, rfl⟩
end Go.Proofs.YtpbiblhkcomekaaGreat

/- TreeBack, in plain words: the signs of what is printed; the law. -/
namespace Go.Proofs.YtpbiblhkcomekaaGreat
open Go Go.RowKit
set_option linter.unusedSimpArgs false
set_option linter.unusedVariables false
set_option maxRecDepth 20000
end Go.Proofs.YtpbiblhkcomekaaGreat

/- TreeBack, in plain words: the law. -/
namespace Go.Proofs.YtpbiblhkcomekaaGreat
open Go Go.RowKit
set_option linter.unusedSimpArgs false
set_option linter.unusedVariables false
set_option maxRecDepth 20000
theorem numGo_le {most : Int} : ∀ (l : List UInt8) (n x : Int), n ≤ most → numGo most l n = some x → x ≤ most
  | [], n, x, hn, h => by
    rw [numGo] at h
    injection h with h
    omega
  | b :: r, n, x, hn, h => by
    rw [numGo] at h
    split at h
    · rename_i hc
      exact numGo_le r _ x hc.2 h
    · cases h
theorem lexS_norm (u : List UInt8) (he : (lexS u).e = 0) : ((lexS u).sg.kind = 1 → (lexS u).sg.num = 0) ∧ ((lexS u).sg.kind = 4 → (lexS u).sg.num = 0) ∧ ((lexS u).sg.kind = 3 → (lexS u).sg.num ≤ 2147483648) := by
  cases u with
  | nil => cases he
  | cons c r =>
    rw [lexS_cons] at he ⊢
    by_cases h1 : letB c = true
    · rw [if_pos h1] at he ⊢
      unfold nameS at he ⊢
      split
      · exact ⟨fun _ => rfl, fun _ => rfl, fun h => (by cases h)⟩
      · split
        · exact ⟨fun _ => rfl, fun _ => rfl, fun h => (by cases h)⟩
        · exact ⟨fun _ => rfl, fun _ => rfl, fun h => (by cases h)⟩
    · rw [if_neg h1] at he ⊢
      by_cases h2 : digB c = true
      · rw [if_pos h2] at he ⊢
        unfold numS at he ⊢
        split
        · exact ⟨fun h => (by cases h), fun h => (by cases h), fun h => (by cases h)⟩
        · cases hn : num ((c :: r).take (runB digB (c :: r))) 2147483648 with
          | none => exact ⟨fun h => (by cases h), fun h => (by cases h), fun h => (by cases h)⟩
          | some x =>
            refine ⟨fun h => (by cases h), fun h => (by cases h), fun _ => ?_⟩
            unfold num at hn
            split at hn
            · cases hn
            · have := numGo_le _ 0 x (by decide) hn
              simp only
              omega
      · rw [if_neg h2] at he ⊢
        by_cases h3 : c.toNat = 34
        · rw [if_pos h3] at he ⊢
          unfold textS at he ⊢
          split
          · exact ⟨fun h => (by cases h), fun h => (by cases h), fun h => (by cases h)⟩
          · exact ⟨fun h => (by cases h), fun _ => rfl, fun h => (by cases h)⟩
        · rw [if_neg h3] at he ⊢
          obtain ⟨m, _, h4, _⟩ := markS_ok _ _ he
          rw [h4]
          exact ⟨fun h => (by cases h), fun h => (by cases h), fun h => (by cases h)⟩
theorem good_sg {t : List UInt8} (ht : t.length ≤ 1200) {p : Sg × Nat} (h : SgOk t p) : (p.1.kind = 1 → LexOk (nmG p.1.text)) ∧ (p.1.kind = 4 → LexOk (txG p.1.text) ∧ p.1.text.length ≤ 1200) ∧ (p.1.kind = 3 → p.1.num ≤ 2147483648) := by
  have hol := (own_len h).1
  obtain ⟨h1, h2, h3⟩ := h
  obtain ⟨n1, n2, n3⟩ := lexS_norm _ h2
  obtain ⟨o1, o2, o3, _⟩ := own_lex t p.2 h1 h2 (d := 32) (by decide)
  rw [h3] at o1 o2 o3 n1 n2 n3
  obtain ⟨⟨k, x, v⟩, a⟩ := p
  simp only at o1 o2 o3 n1 n2 n3 ⊢
  obtain ⟨c0, x0, c1, c2, c3⟩ := o2
  rw [c1, List.length_cons] at hol
  have o2 : ∃ c y, ownB t (⟨k, x, v⟩, a) = c :: y ∧ blkB c = false ∧ c.toNat ≠ 35 ∧ y.length ≤ 5000 := ⟨c0, x0, c1, c2, c3, by omega⟩
  clear c1 hol
  refine ⟨fun hk => ?_, fun hk => ?_, n3⟩
  · subst hk
    have hv := n1 rfl
    subst hv
    exact ⟨o1, o2⟩
  · subst hk
    have hv := n2 rfl
    subst hv
    exact ⟨⟨o1, o2⟩, by have := o3 rfl; omega⟩
theorem good_signs {t : List UInt8} (ht : t.length ≤ 1200) {l : List (Sg × Nat)} (h : signsB t = .inr l) : GoodL l := by
  obtain ⟨b1, b2, b3, _⟩ := blanks_law 0 t l h
  obtain ⟨p, z, hp, hz⟩ := (signsB_wf h).1
  intro q hq
  rw [hp] at hq b3
  rw [List.dropLast_concat] at b3
  rcases List.mem_append.1 hq with hq | hq
  · exact good_sg ht (b3 q hq)
  · rw [List.mem_singleton.1 hq, hz]
    exact ⟨fun h => (by cases h), fun h => (by cases h), fun h => (by cases h)⟩
/-- What a script's tree is, whose text was read. -/
theorem back_fit {t : List UInt8} (ht : t.length ≤ 1200) (h : (parseT t).2 = 0) : ∃ ks, (parseT t).1 = .mk 0 [] 0 ks ∧ (∀ k ∈ ks, FitO k) ∧ (sgN (parseT t).1).length ≤ 1024 ∧ dupB [] ks = false := by
  unfold parseT at h ⊢
  split at h
  · rename_i e hl; exact absurd h (signsB_err hl)
  · rename_i l hl
    have hw := signsB_wf hl
    by_cases he : (scriptS ⟨l, 0, 0⟩).2.e = 0
    · rw [if_neg (by rw [he]; simp)] at h ⊢
      cases hd : dupB [] (scriptS ⟨l, 0, 0⟩).1.kids with
      | true => rw [hd, if_pos rfl] at h; cases h
      | false =>
        rw [if_neg (by decide)]
        refine ⟨(scLoop (l.length + 2) [] ⟨l, 0, 0⟩).1, rfl, ?_⟩
        have hz : (scLoop (l.length + 2) [] ⟨l, 0, 0⟩).2.e = 0 := he
        obtain ⟨c1, c2, c3, c4⟩ := scE (l.length + 2) [] ⟨l, 0, 0⟩ ⟨l, 0, 0⟩ (good_signs ht hl) (List.suffix_refl _) rfl (fun k hk => by cases hk) (by simp) hz (fun _ => by simp only; omega)
        have hwf := (scLoop_ok (l.length + 2) [] ⟨l, 0, 0⟩).wf hw.1
        obtain ⟨p, z, hp, _⟩ := hwf
        have hlen := congrArg List.length hp
        rw [List.length_append, List.length_cons, List.length_nil] at hlen
        refine ⟨c1, ?_, hd⟩
        show (sgN (.mk 0 [] 0 (scLoop (l.length + 2) [] ⟨l, 0, 0⟩).1)).length ≤ 1024
        rw [sgN_mk]
        simp only [bldG, flat_len]
        have := hw.2
        simp only at c2
        omega
    · rw [if_pos he] at h
      exact absurd h he
end Go.Proofs.YtpbiblhkcomekaaGreat

