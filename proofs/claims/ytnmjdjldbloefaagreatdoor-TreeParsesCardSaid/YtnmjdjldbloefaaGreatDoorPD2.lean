import Derived.Test.YtnmjdjldbloefaaGreatDoorPH1
import Derived.Test.YtnmjdjldbloefaaGreatDoorPE5
import Derived.Test.YtnmjdjldbloefaaGreatDoorPD0
import Derived.Test.YtnmjdjldbloefaaGreatDoorPH2
/- Plain: climbing by ranks is parsing level by level. -/
namespace Go.Proofs.YtnmjdjldbloefaaGreatDoor
open Go Go.RowKit
set_option linter.unusedSimpArgs false
set_option linter.unusedVariables false
def rkN (x:List UInt8):Nat:=if (opL 0).contains x then 0 else if (opL 1).contains x then 1 else if (opL 2).contains x then 2 else if (opL 3).contains x then 3 else if (opL 4).contains x then 4 else 5
theorem Ni (x:List UInt8): ∀ i,i < 5→((opL i).contains x=true↔rkN x=i):=by
 by_cases h:x∈([[111,114],[97,110,100],[61,61],[33,61],[60],[60,61],[62],[62,61],[43],[45],[42],[47],[37]]:List (List UInt8))
 ·have key: ∀ y∈([[111,114],[97,110,100],[61,61],[33,61],[60],[60,61],[62],[62,61],[43],[45],[42],[47],[37]]:List (List UInt8)),∀ i,i < 5→((opL i).contains y=true↔rkN y=i):=by decide
  exact key x h
 ·have hn: ∀ i,i < 5→(opL i).contains x=false:=by
   intro i hi
   have hs: ∀ i,i < 5→ ∀ y∈opL i,y∈([[111,114],[97,110,100],[61,61],[33,61],[60],[60,61],[62],[62,61],[43],[45],[42],[47],[37]]:List (List UInt8)):=by decide
   cases hc:(opL i).contains x with
   | false=>rfl
   | true=>exact absurd (hs i hi x (by simpa using hc)) h
  intro i hi
  have e:rkN x=5:=by
   unfold rkN
   rw [hn 0 (by omega),hn 1 (by omega),hn 2 (by omega),hn 3 (by omega),hn 4 (by omega)]
   rfl
  rw [hn i hi,e]
  constructor
  ·intro h;cases h
  ·intro h;omega
def Zo (ex:Nat→PSt→Nd×PSt) (least:Nat):Nat→Nat→Nd→PSt→Nd×PSt
 | 0,_,out,s=>(out,s)
 | g+1,m,out,s=>if s.e≠0 then (out,s) else match s.l with
  | []=>(out,s)
  | (q,_)::r=>if (q.kind=2∨q.kind=5)∧least≤rkN q.text∧rkN q.text < m then
    Zo ex least g (if rkN q.text=2 then 2 else rkN q.text+1) (.mk 13 q.text 0 [out,(ex (rkN q.text+1) ⟨r,s.d,s.e⟩).1]) (ex (rkN q.text+1) ⟨r,s.d,s.e⟩).2
   else (out,s)
def Xx (un:PSt→Nd×PSt):Nat→Nat→PSt→Nd×PSt
 | 0,_,s=>(nd0,s)
 | f+1,least,s=>Zo (Xx un f) least ((un s).2.l.length+1) 5 (un s).1 (un s).2
theorem opS_is (g:Sg) (a:Nat) (r:List (Sg×Nat)) (d e:Nat): ∀ L:List (List UInt8),opS L ⟨(g,a)::r,d,e⟩=if e=0∧(g.kind=2∨g.kind=5)∧L.contains g.text=true then (some g.text,⟨r,d,e⟩) else (none,⟨(g,a)::r,d,e⟩)
 | []=>by
  rw [if_neg (by simp)]
  rfl
 | x::L=>by
  rw [opS,opS_is g a r d e L]
  simp only [isS]
  by_cases hc:e=0∧g.text=x∧(g.kind=2∨g.kind=5)
  ·rw [if_pos hc,if_pos rfl,if_pos ⟨hc.1,hc.2.2,by simp [hc.2.1]⟩,hc.2.1]
  ·rw [if_neg hc]
   simp only [Bool.false_eq_true,if_false]
   by_cases hk:e=0∧(g.kind=2∨g.kind=5)
   ·have hx: ¬ g.text=x:=fun h=>hc ⟨hk.1,h,hk.2⟩
    simp [hk,hx]
   ·rw [if_neg (fun h=>hk ⟨h.1,h.2.1⟩),if_neg (fun h=>hk ⟨h.1,h.2.1⟩)]
theorem opS_nil (d e:Nat): ∀ L:List (List UInt8),opS L ⟨[],d,e⟩=(none,⟨[],d,e⟩)
 | []=>rfl
 | x::L=>by
  rw [opS,opS_nil d e L]
  rfl
theorem U8 {i:Nat} {nx:PSt→Nd×PSt} {f:Nat} {out:Nd} {s:PSt} (h:opS (opL i) s=(none,s)):Xh i nx (f+1) out s=(out,s):=by
 rw [Xh,h]
theorem Cy {i:Nat} {nx:PSt→Nd×PSt} {f:Nat} {out:Nd} {s s1:PSt} {x:List UInt8} (h:opS (opL i) s=(some x,s1)):Xh i nx (f+1) out s=if i=2 then (.mk 13 x 0 [out,(nx s1).1],(nx s1).2) else Xh i nx f (.mk 13 x 0 [out,(nx s1).1]) (nx s1).2:=by
 rw [Xh,h]
theorem lvLoop_fuel {i:Nat} {nx:PSt→Nd×PSt} (hnx: ∀ s,Ok s (nx s).2): ∀ (f f':Nat) (out:Nd) (s:PSt),s.l.length < f→s.l.length < f'→Xh i nx f out s=Xh i nx f' out s
 | 0,_,_,s,h,_=>absurd h (Nat.not_lt_zero _)
 | _+1,0,_,s,_,h=>absurd h (Nat.not_lt_zero _)
 | f+1,f'+1,out,s,h,h'=>by
  cases ho:opS (opL i) s with
  | mk o s1 =>
   cases o with
   | none =>
    have e:=opS_no (opL i) s (by rw [ho])
    rw [ho] at e
    have e:s1=s:=e
    subst e
    rw [U8 ho,U8 ho]
   | some x =>
    rw [Cy ho,Cy ho]
    have hlt:=opS_lt (opL i) s x (by rw [ho])
    rw [ho] at hlt
    have hl2:=(hnx s1).len
    have hlt:s1.l.length < s.l.length:=hlt.1
    by_cases h2:i=2
    ·rw [if_pos h2,if_pos h2]
    ·rw [if_neg h2,if_neg h2]
     exact lvLoop_fuel hnx f f' _ _ (by omega) (by omega)
def Cz (un:PSt→Nd×PSt) (least:Nat):Nat→Nd→PSt→Nd×PSt
 | 0,out,s=>(out,s)
 | c+1,out,s=>Cz un least c (Xh (least+c) (Jz un (4 - (least+c))) (s.l.length+1) out s).1 (Xh (least+c) (Jz un (4 - (least+c))) (s.l.length+1) out s).2
theorem lvAll_lev (un:PSt→Nd×PSt) (least:Nat): ∀ c,least+c≤5→ ∀ s,Cz un least c (Jz un (5 - (least+c)) s).1 (Jz un (5 - (least+c)) s).2=Jz un (5 - least) s
 | 0,h,s=>rfl
 | c+1,h,s=>by
  have ih:=lvAll_lev un least c (by omega) s
  rw [Cz]
  have e1:5 - (least+(c+1))=4 - (least+c):=by omega
  have e2:5 - (least+c)=4 - (least+c)+1:=by omega
  rw [e2] at ih
  rw [e1]
  generalize hk:4 - (least+c)=k at *
  have e3:least+c=4 - k:=by omega
  rw [Jz,← e3] at ih
  exact ih
theorem By {un:PSt→Nd×PSt} {least:Nat} {s:PSt}: ∀ (c:Nat) (out:Nd),(∀ i,least≤i→i < least+c→opS (opL i) s=(none,s))→Cz un least c out s=(out,s)
 | 0,out,h=>rfl
 | c+1,out,h=>by
  rw [Cz,U8 (h (least+c) (by omega) (by omega))]
  exact By c out fun i h1 h2=>h i h1 (by omega)
theorem lvAll_skip {un:PSt→Nd×PSt} {least k:Nat} {s:PSt} (hk:least≤k): ∀ (c:Nat) (out:Nd),k < least+c→(∀ i,k < i→i < least+c→opS (opL i) s=(none,s))→Cz un least c out s=Cz un least (k - least+1) out s
 | 0,out,h,_=>by omega
 | c+1,out,h,hn=>by
  by_cases he:k=least+c
  ·rw [show k - least=c by omega]
  ·have ih:=lvAll_skip (un:=un) hk c out (by omega) fun i h1 h2=>hn i h1 (by omega)
   rw [← ih,Cz,U8 (hn (least+c) (by omega) (by omega))]
theorem climb_lev {un:PSt→Nd×PSt} (hun: ∀ s,Ok s (un s).2) {least:Nat} (hl:least≤5) {ex:Nat→PSt→Nd×PSt} (hex: ∀ k,least≤k→k≤4→ ∀ s,ex (k+1) s=Jz un (4 - k) s): ∀ (N:Nat) (s:PSt),s.l.length≤N→ ∀ g,s.l.length < g→ ∀ c,least+c≤5→ ∀ out,Zo ex least g (least+c) out s=Cz un least c out s:=by
 intro N
 induction N with
 | zero =>
  intro s hs g hg c hc out
  obtain ⟨l,d,e⟩:=s
  obtain rfl:l= []:=List.length_eq_zero_iff.1 (by simpa using hs)
  obtain ⟨g,rfl⟩: ∃ g',g=g'+1:=⟨g - 1,by simp at hg;omega⟩
  rw [By c out fun i _ _=>opS_nil d e _,Zo]
  dsimp only
  split <;> rfl
 | succ N ih =>
  intro s hs g hg c hc out
  obtain ⟨l,d,e⟩:=s
  cases l with
  | nil=>exact ih ⟨[],d,e⟩ (Nat.zero_le _) g hg c hc out
  | cons p r =>
   obtain ⟨q,a⟩:=p
   obtain ⟨g,rfl⟩: ∃ g',g=g'+1:=⟨g - 1,by simp at hg;omega⟩
   simp only [List.length_cons] at hs hg
   rw [Zo]
   dsimp only
   by_cases he:e=0
   ·subst he
    rw [if_neg (by simp)]
    by_cases hk:(q.kind=2∨q.kind=5)∧least≤rkN q.text∧rkN q.text < least+c
    ·rw [if_pos hk]
     obtain ⟨hk1,hk2,hk3⟩:=hk
     have hop: ∀ i,i < 5→opS (opL i) ⟨(q,a)::r,d,0⟩=if rkN q.text=i then (some q.text,⟨r,d,0⟩) else (none,⟨(q,a)::r,d,0⟩):=by
      intro i hi
      rw [opS_is]
      by_cases hr:rkN q.text=i
      ·rw [if_pos hr,if_pos ⟨rfl,hk1,(Ni q.text i hi).2 hr⟩]
      ·rw [if_neg hr,if_neg (fun h=>hr ((Ni q.text i hi).1 h.2.2))]
     generalize hkk:rkN q.text=k at *
     have hopk:=hop k (by omega)
     rw [if_pos rfl] at hopk
     rw [hex k hk2 (by omega)]
     have hnx: ∀ s,Ok s (Jz un (4 - k) s).2:=fun s=>K6 _ s fun s' _=>hun s'
     have hlen:=(hnx ⟨r,d,0⟩).len
     simp only at hlen
     rw [lvAll_skip hk2 c out hk3 (fun i h1 h2=>by rw [hop i (by omega),if_neg (by omega)]),Cz,show least+(k - least)=k by omega,Cy hopk]
     generalize Jz un (4 - k) ⟨r,d,0⟩=Q at *
     by_cases h2:k=2
     ·subst h2
      rw [if_pos rfl,if_pos rfl]
      have:=ih Q.2 (by omega) g (by omega) (2 - least) (by omega) (.mk 13 q.text 0 [out,Q.1])
      rw [show least+(2 - least)=2 by omega] at this
      exact this
     ·rw [if_neg h2,if_neg h2]
      have:=ih Q.2 (by omega) g (by omega) (k - least+1) (by omega) (.mk 13 q.text 0 [out,Q.1])
      rw [show least+(k - least+1)=k+1 by omega] at this
      rw [this,Cz,show least+(k - least)=k by omega,lvLoop_fuel hnx (Q.2.l.length+1) (List.length ((q,a)::r)) _ Q.2 (by omega) (by simp only [List.length_cons];omega)]
    ·rw [if_neg hk,By c out fun i h1 h2=> ?_]
     rw [opS_is,if_neg]
     rintro ⟨_,h3,h4⟩
     have:=(Ni q.text i (by omega)).1 h4
     exact hk ⟨h3,by omega,by omega⟩
   ·rw [if_pos he,By c out fun i h1 h2=> ?_]
    rw [opS_is,if_neg (fun h=>he h.1)]
theorem expr_lev {un:PSt→Nd×PSt} (hun: ∀ s,Ok s (un s).2): ∀ (f least:Nat),6≤f+least→least≤5→ ∀ s,Xx un f least s=Jz un (5 - least) s
 | 0,least,h,hl,s=>by omega
 | f+1,least,h,hl,s=>by
  rw [Xx]
  have hex: ∀ k,least≤k→k≤4→ ∀ s,Xx un f (k+1) s=Jz un (4 - k) s:=fun k h1 h2 s=>by
   rw [expr_lev hun f (k+1) (by omega) (by omega) s,show 5 - (k+1)=4 - k by omega]
  have h1:=climb_lev hun hl hex (un s).2.l.length (un s).2 (Nat.le_refl _) ((un s).2.l.length+1) (Nat.lt_succ_self _) (5 - least) (by omega) (un s).1
  rw [show least+(5 - least)=5 by omega] at h1
  rw [h1,← lvAll_lev un least (5 - least) (by omega) s,show 5 - (least+(5 - least))=0 by omega,Jz]
def X3 (s:PSt):PSt:=⟨s.l,s.d+1,if s.e=0∧s.d=16 then 9 else s.e⟩
def upE (s:PSt):PSt:=⟨s.l,s.d - 1,s.e⟩
def Zk (rd:PSt→Nd×PSt) (s:PSt):Nd×PSt:=if (X3 s).e=0 then ((rd (X3 s)).1,upE (rd (X3 s)).2) else (nd0,upE (X3 s))
def argD (rd:PSt→Nd×PSt) (out:List Nd) (s:PSt):List Nd:=if (X3 s).e=0 then out++ [(Zk rd s).1] else out
def Zs (rd:PSt→Nd×PSt):Nat→List Nd→PSt→List Nd×PSt
 | 0,out,s=>(out,s)
 | f+1,out,s=>if s.e=0 then
   (if (isS [41] (Zk rd s).2).1 then (argD rd out s,(isS [41] (Zk rd s).2).2) else Zs rd f (argD rd out s) (Q5 [44] (Zk rd s).2))
  else (out,s)
def D3 (rd:PSt→Nd×PSt) (s:PSt):List Nd×PSt:=if (isS [41] s).1 then ([],(isS [41] s).2) else Zs rd (s.l.length+2) [] s
def E2 (un:PSt→Nd×PSt) (s:PSt):Nd×PSt:=match Xv 3 s with
 | (some (g,_),s')=>(.mk 8 [] g.num [],s')
 | (none,_)=>match Xv 4 s with
  | (some (g,_),s')=>(.mk 9 g.text 0 [],s')
  | (none,_)=>if (isS [110,105,108] s).1 then (.mk 10 [] 0 [],(isS [110,105,108] s).2)
   else if (isS [40] s).1 then ((Zk (Xx un 6 0) (isS [40] s).2).1,Q5 [41] (Zk (Xx un 6 0) (isS [40] s).2).2)
   else if (isS [40] (nmS s).2).1 then (.mk 12 (nmS s).1 0 (D3 (Xx un 6 0) (isS [40] (nmS s).2).2).1,(D3 (Xx un 6 0) (isS [40] (nmS s).2).2).2)
   else (.mk 11 (nmS s).1 0 [],(nmS s).2)
def unD (rd:PSt→Nd×PSt) (x:List UInt8) (s:PSt):Nd×PSt:=(.mk 14 x 0 (argD rd [] s),(Zk rd s).2)
def partD:Nat→PSt→Nd×PSt
 | 0,s=>(nd0,s)
 | n+1,s=>if s.e≠0 then (nd0,s)
  else if (isS [110,111,116] s).1 then unD (partD n) [110,111,116] (isS [110,111,116] s).2
  else if (isS [45] s).1 then unD (partD n) [45] (isS [45] s).2
  else E2 (partD n) s
def exD (s:PSt):Nd×PSt:=Xx (partD (s.l.length+1)) 6 0 s
def Yx (st:PSt→Nd×PSt):Nat→List Nd→PSt→List Nd×PSt
 | 0,out,s=>(out,s)
 | f+1,out,s=>if s.e=0∧(isS [125] s).1=false then Yx st f (out++ [(st s).1]) (st s).2 else (out,Q5 [125] s)
def B7 (st:PSt→Nd×PSt) (s:PSt):Nd×PSt :=
 if (X3 (Q5 [123] s)).e=0 then (.mk 2 [] 0 (Yx st ((Q5 [123] s).l.length+2) [] (X3 (Q5 [123] s))).1,upE (Yx st ((Q5 [123] s).l.length+2) [] (X3 (Q5 [123] s))).2)
 else (.mk 2 [] 0 [],upE (X3 (Q5 [123] s)))
def setD (s:PSt):List UInt8×PSt:=match s.l with
 | (g,_)::_::r=>(g.text,⟨r,s.d,s.e⟩)
 | _=>([],s)
def ifD (bl:PSt→Nd×PSt) (s:PSt):Nd×PSt :=
 if (isS [101,108,115,101] (bl (exD s).2).2).1 then (.mk 5 [] 0 [(exD s).1,(bl (exD s).2).1,(bl (isS [101,108,115,101] (bl (exD s).2).2).2).1],(bl (isS [101,108,115,101] (bl (exD s).2).2).2).2)
 else (.mk 5 [] 0 [(exD s).1,(bl (exD s).2).1],(bl (exD s).2).2)
def U2 (bl:PSt→Nd×PSt) (s:PSt):Nd×PSt :=
 if (isS [105,102] s).1 then ifD bl (isS [105,102] s).2
 else if (isS [119,104,105,108,101] s).1 then (.mk 6 [] 0 [(exD (isS [119,104,105,108,101] s).2).1,(bl (exD (isS [119,104,105,108,101] s).2).2).1],(bl (exD (isS [119,104,105,108,101] s).2).2).2)
 else if (isS [115,116,111,112] s).1 then (.mk 7 [] 0 [],Q5 [59] (isS [115,116,111,112] s).2)
 else if s.e=0∧N8 s=true then (.mk 3 (setD s).1 0 [(exD (setD s).2).1],Q5 [59] (exD (setD s).2).2)
 else (.mk 4 [] 0 [(exD s).1],Q5 [59] (exD s).2)
def blD:Nat→PSt→Nd×PSt
 | 0,s=>(nd0,s)
 | n+1,s=>B7 (U2 (blD n)) s
def onD (s:PSt):Nd×PSt :=
 let s1:=nmS (Q5 [111,110] s)
 let s2:=Xt varS (Q5 [40] s1.2)
 let s3:=blD (s2.2.l.length+1) s2.2
 (.mk 1 s1.1 0 (s2.1++ [s3.1]),s3.2)
def scLoopD:Nat→List Nd→PSt→List Nd×PSt
 | 0,out,s=>(out,s)
 | f+1,out,s=>if s.e=0∧Ej s=false then scLoopD f (out++ [(onD s).1]) (onD s).2 else (out,s)
def U4 (s:PSt):Nd×PSt:=(.mk 0 [] 0 (scLoopD (s.l.length+2) [] s).1,(scLoopD (s.l.length+2) [] s).2)
def Ed (t:List UInt8):Nd×Nat:=match Yi t with
 | .inl e=>(nd0,e)
 | .inr l=>if (U4 ⟨l,0,0⟩).2.e≠0 then (nd0,(U4 ⟨l,0,0⟩).2.e) else if dupB [] (U4 ⟨l,0,0⟩).1.kids then (nd0,5) else ((U4 ⟨l,0,0⟩).1,0)
def AgR {α:Type} (a b:α×PSt):Prop:=a.2.e=b.2.e∧(a.2.e=0→a=b)
theorem AgR.refl {α:Type} (a:α×PSt):AgR a a:=⟨rfl,fun _=>rfl⟩
def SR (a b:PSt):Prop:=a.e=b.e∧(a.e=0→a=b)
theorem AgR.sr {α:Type} {a b:α×PSt} (h:AgR a b):SR a.2 b.2:=⟨h.1,fun e=>by rw [h.2 e]⟩
theorem SR.refl (a:PSt):SR a a:=⟨rfl,fun _=>rfl⟩
structure Agr {α:Type} (F G:PSt→α×PSt):Prop where
 eq: ∀ s,s.e=0→s.d≤16→AgR (F s) (G s)
 okF: ∀ s,Ok s (F s).2
 okG: ∀ s,s.e≠0→(G s).2.e=s.e
theorem Agr.step {α:Type} {F G:PSt→α×PSt} (h:Agr F G) {a b:PSt} (hs:SR a b) (hd:a.d≤16):AgR (F a) (G b):=by
 by_cases he:a.e=0
 ·have:=hs.2 he
  subst this
  exact h.eq a he hd
 ·have e1:=(h.okF a).err he
  have e2:=h.okG b (by rw [← hs.1];exact he)
  exact ⟨by rw [e1,e2,hs.1],fun h0=>absurd h0 (by rw [e1];exact he)⟩
theorem AgR.map {α β:Type} {a b:α×PSt} {u v:β×PSt} (h:AgR a b) (h1:a.2.e≠0→u.2.e=a.2.e) (h2:b.2.e≠0→v.2.e=b.2.e) (h3:a.2.e=0→a=b→AgR u v):AgR u v:=by
 by_cases he:a.2.e=0
 ·exact h3 he (h.2 he)
 ·have g1:=h1 he
  have g2:=h2 (by rw [← h.1];exact he)
  exact ⟨by rw [g1,g2,h.1],fun h0=>absurd h0 (by rw [g1];exact he)⟩
theorem K8 (x:List UInt8) {s:PSt} (h:s.e≠0):isS x s=(false,s):=by
 unfold isS
 split
 ·rfl
 ·rw [if_neg (fun q=>h q.1)]
theorem X7 (x:List UInt8) {s:PSt} (h:s.e≠0):Q5 x s=s:=by
 unfold Q5
 rw [K8 x h]
 simp [Yt,h]
theorem nmS_err {s:PSt} (h:s.e≠0):nmS s=([],s):=by
 obtain ⟨l,d,e⟩:=s
 have h:e≠0:=h
 cases l with
 | nil=>simp [nmS,Xv,Yt,h]
 | cons p r=>simp [nmS,Xv,Yt,h]
theorem Ux {F G:PSt→Nd×PSt} (h:Agr F G):Agr (Jq F) (Zk G):=by
 refine ⟨fun s he hd=> ?_,fun s=>Be s fun s' _=>h.okF s',fun s he=> ?_⟩
 ·obtain ⟨l,d,e⟩:=s
  obtain rfl:e=0:=he
  have hd:d≤16:=hd
  unfold Jq Zk
  by_cases h16:d=16
  ·subst h16
   have e1:Kw ⟨l,16,0⟩=⟨l,16,9⟩:=rfl
   have e2:X3 ⟨l,16,0⟩=⟨l,17,9⟩:=rfl
   rw [e1,e2]
   exact ⟨rfl,fun h=>absurd h (by simp)⟩
  ·have e1:Kw ⟨l,d,0⟩=⟨l,d,0⟩:=by unfold Kw;rw [if_neg (by show ¬ 16≤d;omega)]
   have e2:X3 ⟨l,d,0⟩=⟨l,d+1,0⟩:=by unfold X3;simp [h16]
   rw [e1,e2]
   simp only [ne_eq,not_true_eq_false,if_false,if_true]
   have k:=h.eq ⟨l,d+1,0⟩ rfl (by show d+1≤16;omega)
   exact ⟨k.1,fun h0=>by rw [k.2 h0];rfl⟩
 ·unfold Zk
  have e2:(X3 s).e=s.e:=by unfold X3;simp [he]
  rw [if_neg (by rw [e2];exact he)]
  exact e2
theorem Dl {s:PSt} (he:s.e≠0):(X3 s).e=s.e:=by unfold X3;simp [he]
theorem arg_ok {F G:PSt→Nd×PSt} (h:Agr F G) {s:PSt} (he:s.e=0) (hd:s.d≤16) (h0:(Jq F s).2.e=0) (out:List Nd):argD G out s=out++ [(Jq F s).1]∧(Zk G s).2=(Jq F s).2:=by
 have k:=((Ux h).eq s he hd)
 have k2:=k.2 h0
 have hde:(X3 s).e=0:=by
  refine Classical.byContradiction fun hne=> ?_
  have:(Zk G s).2.e≠0:=by
   unfold Zk
   rw [if_neg hne]
   exact hne
  exact this (by rw [← k2];exact h0)
 unfold argD
 rw [if_pos hde,k2]
 exact ⟨rfl,rfl⟩
theorem lsLoop_agr {F G:PSt→Nd×PSt} (h:Agr F G): ∀ (f:Nat) (out:List Nd) (s:PSt),s.e=0→s.d≤16→AgR (J4 (Jq F) f out s) (Zs G f out s)
 | 0,out,s,he,hd=> .refl _
 | f+1,out,s,he,hd=>by
  rw [J4,Zs,if_pos he,if_pos he]
  have k:=(Ux h).eq s he hd
  refine AgR.map k (fun h1=> ?_) (fun h1=> ?_) fun h0 h1=> ?_
  ·rw [K8 _ h1,X7 _ h1]
   simp only [Bool.false_eq_true,if_false]
   cases f with
   | zero=>rfl
   | succ f=>rw [J4,if_neg h1]
  ·rw [K8 _ h1,X7 _ h1]
   simp only [Bool.false_eq_true,if_false]
   cases f with
   | zero=>rfl
   | succ f=>rw [Zs,if_neg h1]
  ·obtain ⟨a1,a2⟩:=arg_ok h he hd h0 out
   rw [a1,a2]
   have hdep:=((Ux h).okF s).dep
   split
   ·exact .refl _
   ·by_cases hm:(Q5 [44] (Jq F s).2).e=0
    ·exact lsLoop_agr h f _ _ hm (by rw [(J9 _ _).dep,hdep];exact hd)
    ·cases f with
     | zero=>exact .refl _
     | succ f=>rw [J4,Zs,if_neg hm,if_neg hm];exact .refl _
theorem lsLoopD_err {G:PSt→Nd×PSt} (f:Nat) (out:List Nd) {s:PSt} (h:s.e≠0):Zs G f out s=(out,s):=by
 cases f with
 | zero=>rfl
 | succ f=>rw [Zs,if_neg h]
theorem list_agr {F G:PSt→Nd×PSt} (h:Agr F G):Agr (Xt (Jq F)) (D3 G):=by
 refine ⟨fun s he hd=> ?_,fun s=>Us s fun s' _=>(Ux h).okF s',fun s he=> ?_⟩
 ·unfold Xt D3
  split
  ·exact .refl _
  ·exact lsLoop_agr h _ _ s he hd
 ·unfold D3
  rw [K8 _ he]
  simp only [Bool.false_eq_true,if_false]
  rw [lsLoopD_err _ _ he]
theorem Uy {ex:Nat→PSt→Nd×PSt} {least:Nat} (g m:Nat) (out:Nd) {s:PSt} (h:s.e≠0):Zo ex least g m out s=(out,s):=by
 cases g with
 | zero=>rfl
 | succ g=>rw [Zo,if_pos h]
theorem climbD_ok {ex:Nat→PSt→Nd×PSt} {least:Nat} (hex: ∀ k s,Ok s (ex k s).2): ∀ (g m:Nat) (out:Nd) (s:PSt),Ok s (Zo ex least g m out s).2
 | 0,m,out,s=> .refl s
 | g+1,m,out,s=>by
  obtain ⟨l,d,e⟩:=s
  rw [Zo]
  split
  ·exact .refl _
  ·cases l with
   | nil=>exact .refl _
   | cons p r =>
    obtain ⟨q,a⟩:=p
    dsimp only
    split
    ·rename_i h1 h2
     have h3:Ok ⟨(q,a)::r,d,e⟩ ⟨r,d,e⟩:=⟨fun w=>w.tail (by omega),by simp,rfl,fun _=>rfl⟩
     exact (h3.trans (hex _ _)).trans (climbD_ok hex g _ _ _)
    ·exact .refl _
theorem climb_agr {F G:Nat→PSt→Nd×PSt} (h: ∀ k,Agr (F k) (G k)) {least:Nat}: ∀ (g m:Nat) (out:Nd) (s:PSt),s.e=0→s.d≤16→AgR (Zo F least g m out s) (Zo G least g m out s)
 | 0,m,out,s,he,hd=> .refl _
 | g+1,m,out,s,he,hd=>by
  obtain ⟨l,d,e⟩:=s
  obtain rfl:e=0:=he
  rw [Zo,Zo]
  rw [if_neg (by simp),if_neg (by simp)]
  cases l with
  | nil=>exact .refl _
  | cons p r =>
   obtain ⟨q,a⟩:=p
   dsimp only
   by_cases hk:(q.kind=2∨q.kind=5)∧least≤rkN q.text∧rkN q.text < m
   ·rw [if_pos hk,if_pos hk]
    have k:=(h (rkN q.text+1)).eq ⟨r,d,0⟩ rfl hd
    refine AgR.map k (fun h1=>by rw [Uy _ _ _ h1]) (fun h1=>by rw [Uy _ _ _ h1]) fun h0 h1=> ?_
    rw [← h1]
    exact climb_agr h g _ _ _ h0 (by rw [((h (rkN q.text+1)).okF ⟨r,d,0⟩).dep];exact hd)
   ·rw [if_neg hk,if_neg hk]
    exact .refl _
theorem Ff {F G:PSt→Nd×PSt} (h:Agr F G): ∀ f least,Agr (Xx F f least) (Xx G f least)
 | 0,least=>⟨fun s _ _=> .refl _,fun s=> .refl s,fun s _=>rfl⟩
 | f+1,least=>by
  have ih:=Ff h f
  refine ⟨fun s he hd=> ?_,fun s=> ?_,fun s he=> ?_⟩
  ·rw [Xx,Xx]
   refine AgR.map (h.eq s he hd) (fun h1=>by rw [Uy _ _ _ h1]) (fun h1=>by rw [Uy _ _ _ h1]) fun h0 h1=> ?_
   rw [← h1]
   exact climb_agr ih _ _ _ _ h0 (by rw [(h.okF s).dep];exact hd)
  ·rw [Xx]
   exact (h.okF s).trans (climbD_ok (fun k s=>(ih k).okF s) _ _ _ _)
  ·rw [Xx]
   have e1:=h.okG s he
   rw [Uy _ _ _ (by rw [e1];exact he)]
   exact e1
theorem prim_agr {F G:PSt→Nd×PSt} (h:Agr F G) (s:PSt) (he:s.e=0) (hd:s.d≤16):AgR (Wc F s) (E2 G s):=by
 have hx:Agr (Jz F 5) (Xx G 6 0):=by
  have k:=Ff h 6 0
  exact ⟨fun s a b=>by rw [← expr_lev h.okF 6 0 (by decide) (by decide) s];exact k.eq s a b,fun s=>K6 5 s fun s' _=>h.okF s',k.okG⟩
 unfold Wc E2
 cases Xv 3 s with
 | mk o3 s3 =>
  cases o3 with
  | some p=>exact .refl _
  | none =>
   dsimp only
   cases Xv 4 s with
   | mk o4 s4 =>
    cases o4 with
    | some p=>exact .refl _
    | none =>
     dsimp only
     by_cases h1:(isS [110,105,108] s).1=true
     ·rw [if_pos h1,if_pos h1]
      exact .refl _
     rw [if_neg h1,if_neg h1]
     by_cases h2:(isS [40] s).1=true
     ·rw [if_pos h2,if_pos h2]
      have e0:=(Yd h2).2.2
      have hd0:(isS [40] s).2.d≤16:=by rw [(Xl _ _).dep];exact hd
      refine AgR.map ((Ux hx).eq _ e0 hd0) (fun h1=>by rw [X7 _ h1]) (fun h1=>by rw [X7 _ h1]) fun _ h1=> ?_
      rw [h1]
      exact .refl _
     rw [if_neg h2,if_neg h2]
     by_cases h3:(isS [40] (nmS s).2).1=true
     ·rw [if_pos h3,if_pos h3]
      have e0:=(Yd h3).2.2
      have hd0:(isS [40] (nmS s).2).2.d≤16:=by rw [(Xl _ _).dep,(Wi s).dep];exact hd
      refine AgR.map ((list_agr hx).eq _ e0 hd0) (fun h1=>rfl) (fun h1=>rfl) fun _ h1=> ?_
      rw [h1]
      exact .refl _
     rw [if_neg h3,if_neg h3]
     exact .refl _
theorem un_agr {F G:PSt→Nd×PSt} (h:Agr F G) (x:List UInt8) (s:PSt) (he:s.e=0) (hd:s.d≤16):AgR ((.mk 14 x 0 [(Jq F s).1],(Jq F s).2):Nd×PSt) (unD G x s):=by
 have k:=(Ux h).eq s he hd
 refine ⟨k.1,fun h0=> ?_⟩
 obtain ⟨a1,a2⟩:=arg_ok h he hd h0 []
 unfold unD
 rw [a1,a2]
 rfl
theorem part_agr: ∀ n,Agr (unS n) (partD n)
 | 0=>⟨fun s _ _=> .refl _,fun s=> .refl s,fun s _=>rfl⟩
 | n+1=>by
  have ih:=part_agr n
  refine ⟨fun s he hd=> ?_,fun s=>Ng _ s,fun s he=> ?_⟩
  ·have hne: ¬ s.e≠0:=by simp [he]
   rw [unS,partD,if_neg hne]
   by_cases h1:(isS [110,111,116] s).1=true
   ·rw [if_pos h1,if_pos h1]
    exact un_agr ih _ _ (Yd h1).2.2 (by rw [(Xl _ _).dep];exact hd)
   rw [if_neg h1,if_neg h1]
   by_cases h2:(isS [45] s).1=true
   ·rw [if_pos h2,if_pos h2]
    exact un_agr ih _ _ (Yd h2).2.2 (by rw [(Xl _ _).dep];exact hd)
   rw [if_neg h2,if_neg h2]
   exact prim_agr ih s he hd
  ·rw [partD,if_pos he]
theorem ex_agr:Agr exS exD:=by
 refine ⟨fun s he hd=> ?_,Zn,fun s he=> ?_⟩
 ·unfold exS exD
  rw [show (5:Nat)=5 - 0 from rfl,← expr_lev (fun s=>Ng _ s) 6 0 (by decide) (by decide) s]
  exact (Ff (part_agr (s.l.length+1)) 6 0).eq s he hd
 ·exact (Ff (part_agr (s.l.length+1)) 6 0).okG s he
theorem stLoopD_err {st:PSt→Nd×PSt} (f:Nat) (out:List Nd) {s:PSt} (h:s.e≠0):Yx st f out s=(out,s):=by
 cases f with
 | zero=>rfl
 | succ f=>rw [Yx,if_neg (fun q=>h q.1),X7 _ h]
theorem stLoop_err {st:PSt→Nd×PSt} (f:Nat) (out:List Nd) {s:PSt} (h:s.e≠0):Xf st f out s=(out,s):=by
 cases f with
 | zero=>rfl
 | succ f=>rw [Xf,if_neg h]
theorem stLoop_agr {F G:PSt→Nd×PSt} (h:Agr F G): ∀ (f:Nat) (out:List Nd) (s:PSt),s.e=0→s.d≤16→AgR (Xf F f out s) (Yx G f out s)
 | 0,out,s,he,hd=> .refl _
 | f+1,out,s,he,hd=>by
  rw [Xf,Yx,if_pos he]
  by_cases h1:(isS [125] s).1=true
  ·rw [if_pos h1,if_neg (fun q=>by rw [h1] at q;cases q.2),Q5,if_pos h1]
   exact .refl _
  ·have h1':(isS [125] s).1=false:=by simpa using h1
   rw [if_neg h1,if_pos ⟨he,h1'⟩]
   refine AgR.map (h.eq s he hd) (fun h2=>by rw [stLoop_err _ _ h2]) (fun h2=>by rw [stLoopD_err _ _ h2]) fun h0 h2=> ?_
   rw [← h2]
   exact stLoop_agr h f _ _ h0 (by rw [(h.okF s).dep];exact hd)
theorem block_agr {F G:PSt→Nd×PSt} (h:Agr F G):Agr (B6 F) (B7 G):=by
 refine ⟨fun s he hd=> ?_,blockS_ok h.okF,fun s he=> ?_⟩
 ·have hdep:=(J9 [123] s).dep
  unfold B6 B7
  generalize Q5 [123] s=s1 at *
  by_cases h1:s1.e=0
  ·have hA:Agr (fun s=>((.mk 2 [] 0 (Xf F (s.l.length+2) [] s).1,(Xf F (s.l.length+2) [] s).2):Nd×PSt)) (fun s=>(.mk 2 [] 0 (Yx G (s.l.length+2) [] s).1,(Yx G (s.l.length+2) [] s).2)):=by
    refine ⟨fun s he hd=> ?_,fun s=>Ns h.okF _ _ s,fun s he=> ?_⟩
    ·have k:=stLoop_agr h (s.l.length+2) [] s he hd
     exact ⟨k.1,fun h0=>by rw [k.2 h0]⟩
    ·show (Yx G (s.l.length+2) [] s).2.e=s.e
     rw [stLoopD_err _ _ he]
   have k:=(Ux hA).eq s1 h1 (by omega)
   refine AgR.map k (fun _=>rfl) (fun h2=> ?_) fun h0 h2=> ?_
   ·unfold Zk
    split <;> rfl
   ·rw [h2]
    have hde:(X3 s1).e=0:=by
     refine Classical.byContradiction fun hne=> ?_
     rw [h2] at h0
     unfold Zk at h0
     rw [if_neg hne] at h0
     exact hne h0
    unfold Zk
    rw [if_pos hde,if_pos hde]
    exact .refl _
  ·have e1:Kw s1=s1:=by
    unfold Kw Yt
    rw [if_neg h1]
    split <;> rfl
   have e2:=Dl h1
   unfold Jq
   rw [e1,if_pos h1,if_neg (by rw [e2];exact h1)]
   exact ⟨e2.symm,fun h0=>absurd h0 h1⟩
 ·unfold B7
  rw [X7 _ he,if_neg (by rw [Dl he];exact he)]
  exact Dl he
theorem set_eq {s:PSt} (he:s.e=0) (h:N8 s=true):setD s=((nmS s).1,Q5 [61] (nmS s).2):=by
 obtain ⟨l,d,e⟩:=s
 obtain rfl:e=0:=he
 unfold N8 at h
 match l,h with
 | [],h=>cases h
 | [p],h=>cases h
 | (g,a)::(k,b)::r,h =>
  simp only [Bool.and_eq_true,decide_eq_true_eq] at h
  obtain ⟨⟨h1,h2⟩,h3⟩:=h
  simp [setD,nmS,Xv,Q5,isS,h1,h2,h3]
theorem ifA {F G:PSt→Nd×PSt} (h:Agr F G) (s:PSt) (he:s.e=0) (hd:s.d≤16):AgR (ifS F s) (ifD G s):=by
 unfold ifS ifD
 have k1:=ex_agr.eq s he hd
 have d1:=(Zn s).dep
 have k2:=h.step k1.sr (by omega)
 have d2:=(h.okF (exS s).2).dep
 refine AgR.map k2 (fun h1=> ?_) (fun h1=> ?_) fun h0 h2=> ?_
 ·rw [K8 _ h1]
  rfl
 ·rw [K8 _ h1]
  rfl
 ·have he1:(exS s).2.e=0:=by
   refine Classical.byContradiction fun hne=> ?_
   rw [(h.okF (exS s).2).err hne] at h0
   exact hne h0
  rw [← k1.2 he1] at h2 ⊢
  rw [← h2]
  by_cases hc:(isS [101,108,115,101] (F (exS s).2).2).1=true
  ·rw [if_pos hc,if_pos hc]
   have k3:=h.eq (isS [101,108,115,101] (F (exS s).2).2).2 (Yd hc).2.2 (by rw [(Xl _ _).dep];omega)
   exact ⟨k3.1,fun h0=>by rw [k3.2 h0]⟩
  ·rw [if_neg hc,if_neg hc]
   exact .refl _
theorem semi_agr {a b:Nd×PSt} (h:AgR a b) (mk:Nd→Nd):AgR ((mk a.1,Q5 [59] a.2):Nd×PSt) (mk b.1,Q5 [59] b.2):=by
 refine AgR.map h (fun h1=>by rw [X7 _ h1]) (fun h1=>by rw [X7 _ h1]) fun _ h1=> ?_
 rw [h1]
 exact .refl _
theorem stmt_agr {F G:PSt→Nd×PSt} (h:Agr F G):Agr (Zr F) (U2 G):=by
 refine ⟨fun s he hd=> ?_,Ey h.okF,fun s he=> ?_⟩
 ·unfold Zr U2
  by_cases h1:(isS [105,102] s).1=true
  ·rw [if_pos h1,if_pos h1]
   exact ifA h _ (Yd h1).2.2 (by rw [(Xl _ _).dep];exact hd)
  rw [if_neg h1,if_neg h1]
  by_cases h2:(isS [119,104,105,108,101] s).1=true
  ·rw [if_pos h2,if_pos h2]
   have e0:=(Yd h2).2.2
   have d0:(isS [119,104,105,108,101] s).2.d≤16:=by rw [(Xl _ _).dep];exact hd
   generalize (isS [119,104,105,108,101] s).2=s1 at *
   have k1:=ex_agr.eq s1 e0 d0
   have d1:=(Zn s1).dep
   have k2:=h.step k1.sr (by omega)
   refine ⟨k2.1,fun h0=> ?_⟩
   have h0:(F (exS s1).2).2.e=0:=h0
   have he1:(exS s1).2.e=0:=by
    refine Classical.byContradiction fun hne=> ?_
    rw [(h.okF (exS s1).2).err hne] at h0
    exact hne h0
   have k3:=k2.2 h0
   rw [← k1.2 he1] at k3 ⊢
   rw [← k3]
  rw [if_neg h2,if_neg h2]
  by_cases h3:(isS [115,116,111,112] s).1=true
  ·rw [if_pos h3,if_pos h3]
   exact .refl _
  rw [if_neg h3,if_neg h3]
  by_cases h4:N8 s=true
  ·rw [if_pos h4,if_pos ⟨he,h4⟩,set_eq he h4]
   by_cases hm:(Q5 [61] (nmS s).2).e=0
   ·exact semi_agr (ex_agr.eq _ hm (by rw [(J9 _ _).dep,(Wi s).dep];exact hd)) (fun a=> .mk 3 (nmS s).1 0 [a])
   ·exact semi_agr (ex_agr.step (.refl _) (by rw [(J9 _ _).dep,(Wi s).dep];exact hd)) (fun a=> .mk 3 (nmS s).1 0 [a])
  ·rw [if_neg h4,if_neg (fun q=>h4 q.2)]
   exact semi_agr (ex_agr.eq s he hd) (fun a=> .mk 4 [] 0 [a])
 ·unfold U2
  rw [K8 _ he,K8 _ he,K8 _ he]
  simp only [Bool.false_eq_true,if_false]
  have hn: ¬ (s.e=0∧N8 s=true):=fun q=>he q.1
  rw [if_neg hn]
  dsimp only
  have:=ex_agr.okG s he
  rw [X7 _ (by rw [this];exact he)]
  exact this
theorem bl_agr: ∀ n,Agr (blS n) (blD n)
 | 0=>⟨fun s _ _=> .refl _,fun s=> .refl s,fun s _=>rfl⟩
 | n+1=>block_agr (stmt_agr (bl_agr n))
theorem on_agr:Agr onS onD:=by
 refine ⟨fun s he hd=> ?_,onS_ok,fun s he=> ?_⟩
 ·unfold onS onD
  dsimp only
  have d1:=((J9 [111,110] s).trans (Wi _)).dep
  generalize nmS (Q5 [111,110] s)=q at *
  have d2:=(J9 [40] q.2).dep
  generalize Q5 [40] q.2=s2 at *
  have d3:=(Us (rd:=varS) s2 fun s' _=>Bp s').dep
  generalize Xt varS s2=q3 at *
  have k:=(bl_agr (q3.2.l.length+1)).step (.refl q3.2) (by omega)
  exact ⟨k.1,fun h0=>by rw [k.2 h0]⟩
 ·unfold onD
  dsimp only
  rw [X7 _ he,nmS_err he]
  dsimp only
  rw [X7 _ he]
  have e1:Xt varS s=([],s):=by
   unfold Xt
   rw [K8 _ he]
   simp only [Bool.false_eq_true,if_false]
   rw [J4,if_neg he]
  rw [e1]
  exact (bl_agr (s.l.length+1)).okG s he
theorem scLoop_agr: ∀ (f:Nat) (out:List Nd) (s:PSt),s.d≤16→AgR (scLoop f out s) (scLoopD f out s)
 | 0,out,s,hd=> .refl _
 | f+1,out,s,hd=>by
  rw [scLoop,scLoopD]
  by_cases h1:s.e=0∧Ej s=false
  ·rw [if_pos h1,if_pos h1]
   have k:=on_agr.eq s h1.1 hd
   refine AgR.map k (fun h2=> ?_) (fun h2=> ?_) fun h0 h2=> ?_
   ·cases f with
    | zero=>rfl
    | succ f=>rw [scLoop,if_neg (fun q=>h2 q.1)]
   ·cases f with
    | zero=>rfl
    | succ f=>rw [scLoopD,if_neg (fun q=>h2 q.1)]
   ·rw [← h2]
    exact scLoop_agr f _ _ (by rw [(onS_ok s).dep];exact hd)
  ·rw [if_neg h1,if_neg h1]
   exact .refl _
theorem parseD_eq (t:List UInt8):Ed t=Ym t:=by
 unfold Ed Ym
 cases Yi t with
 | inl e=>rfl
 | inr l =>
  dsimp only
  have k:=scLoop_agr (l.length+2) [] ⟨l,0,0⟩ (Nat.zero_le _)
  have ke:(Xy ⟨l,0,0⟩).2.e=(U4 ⟨l,0,0⟩).2.e:=k.1
  by_cases h:(Xy ⟨l,0,0⟩).2.e=0
  ·have:Xy ⟨l,0,0⟩=U4 ⟨l,0,0⟩:=by
    unfold Xy U4
    rw [k.2 h]
   rw [this]
  ·rw [if_pos (by rw [← ke];exact h),if_pos h,ke]
set_option maxRecDepth 100000
set_option maxHeartbeats 8000000
theorem J3 {a i z:Nat} (hz:z=4) (h:a=i):a*z=i*4:=by subst hz h;rfl
theorem Qp {a i z f j:Nat} (hz:z=4) (h:a=i) (hf:f=j):a*z+f=i*4+j:=by subst hz h hf;rfl
theorem rowsD_at {L:List (Sg×Nat)}: ∀ {i:Nat} {g:Sg} {a:Nat} (j:Nat),L[i]? = some (g,a)→j < 4→(Xw L)[i*4+j]? = (Z4 g a)[j]? :=by
 induction L with
 | nil=>intro i g a j h;simp at h
 | cons p r ih =>
  intro i g a j h hj
  have e:Xw (p::r)=Z4 p.1 p.2++Xw r:=rfl
  rw [e]
  cases i with
  | zero =>
   have h:some p=some (g,a):=h
   injection h with h
   subst h
   rw [Nat.zero_mul,Nat.zero_add,List.getElem?_append_left (by show j < 4;exact hj)]
  | succ i =>
   have h:r[i]? = some (g,a):=h
   rw [List.getElem?_append_right (by show 4≤_;omega),show (i+1)*4+j - (Z4 p.1 p.2).length=i*4+j by show (i+1)*4+j - 4=_;omega]
   exact ih j h hj
theorem Jm {L:List (Sg×Nat)} {i o:Nat} {g:Sg} {a:Nat} (h:L[i]? = some (g,a)) (ho:o=i*4):vat Tryz.prog 65 (Xw L) o=some (.ag (Z4 g a)):=by
 have h1:Dq Tryz.prog 65=some true:=by kernel_rfl
 have h2:Jv Tryz.prog 65=some 4:=by kernel_rfl
 subst ho
 obtain ⟨hi,e⟩:=List.getElem?_eq_some_iff.1 h
 have h3:Nat.ble (i*4+4) (Xw L).length=true:=Nat.ble_eq_true_of_le (by rw [Dd];omega)
 simp only [vat,h1,h2,h3]
 have e:((Xw L).drop (i*4)).take 4=Z4 g a:=by
  apply List.ext_getElem?
  intro j
  rw [List.getElem?_take]
  split
  ·rename_i hj
   rw [List.getElem?_drop]
   exact rowsD_at j h hj
  ·rw [List.getElem?_eq_none (by show 4≤j;omega)]
 rw [e]
theorem Qj {L:List (Sg×Nat)} {i o:Nat} {g:Sg} {a:Nat} {t:TypeId} (j:Nat) {v:VV} (h:L[i]? = some (g,a)) (ht:Dq Tryz.prog t=some false) (hv:(Z4 g a)[j]? = some v) (ho:o=i*4+j):vat Tryz.prog t (Xw L) o=some v:=by
 subst ho
 refine Qa ht ?_ rfl
 rw [rowsD_at j h ?_]
 ·exact hv
 ·obtain ⟨hj,_⟩:=List.getElem?_eq_some_iff.1 hv
  exact hj
def pD (L:List (Sg×Nat)) (s:PSt):VObj:= .cells true [.ro L.length (Xw L),iV ((L.length - s.l.length:Nat):Int),iV s.d,iV s.e]
theorem Jl (l:List (Sg×Nat)):Qq (.ro l.length (Xw l)):=Qx (Nw Qq Qb l)
theorem Y0 {R:List (Nat×Nat)} {t:Nat} (L:List (Sg×Nat)) (s:PSt):Yl R t (pD L s) (pD L s):= .cells (.cons (.of (Jl L)) (.cons (.of (Qb _)) (.cons (.of (Qb _)) (.cons (.of (Qb _)) .nil))))
def Jw (L:List (Sg×Nat)) (f:FuncId) (args:List VV) (s:PSt) (u:VV) (s':PSt):Prop:=Qc Tryz.prog f (.ptr 0 0::args) ⟨[(0,pD L s)],1⟩ (fun v K=>v=u∧K=⟨[(0,pD L s')],1⟩)
theorem Jw.at {L:List (Sg×Nat)} {f:FuncId} {args:List VV} {s s':PSt} {u:VV} (hu:Qq u) (ha: ∀ v∈args,Qq v) (h:Jw L f args s u s') {H:Heap} {b:Nat} (hb:H.get b=some (pD L s)):Qc Tryz.prog f (.ptr b 0::args) H (fun v K=>v=u∧K=⟨(b,pD L s')::Qw [b] H.objs,H.next⟩):=by
 refine Qc.live fun hlive=> ?_
 have hbl:=hlive b _ hb
 have e1:Nat.beq b b=true:=Nat.beq_refl b
 have e2:Nat.blt b H.next=true:=Q9.2 hbl
 have e7: ∀ n,Nat.ble 0 n=true:=fun n=>Nat.ble_eq_true_of_le (Nat.zero_le n)
 refine Qc.at (n1:=1) (O1:= [(0,pD L s)]) [b] [(b,0)] ?_ ⟨⟨_,(Z8 (Ju.2 (by simp))).trans hb,Y0 L s⟩,trivial⟩ (.cons (.ptr (by simp)) (Qu.of ha)) h ?_
 ·rfl
 ·rintro v K ⟨rfl,rfl⟩
  have e0:Yw [(b,0)] 1 H.next (1 - 1)= [(0,b)]:=rfl
  have s1:Xm [(0,b)] 0 b=some 0:=by simp only [Zx,srcN,e1]
  refine ⟨v,[(b,pD L s')],⟨?_,.of hu,?_⟩,?_,rfl,rfl⟩
  ·show (wfR 0 (H.next+0) (Yw [(b,0)] 1 H.next (1 - 1))&&nodupB (Bz (Yw [(b,0)] 1 H.next (1 - 1)) 0 [(b,pD L s')])&&([(b,pD L s')]:List (Nat×VObj)).all (fun p=>(srcN (Yw [(b,0)] 1 H.next (1 - 1)) p.1).isSome)&&_)=true
   rw [e0]
   simp only [wfR,Bz,s1,srcN,e1,e2,e7,Nat.add_zero,List.all_cons,List.all_nil]
   rfl
  ·show Fr (Yw [(b,0)] 1 H.next (1 - 1)) 0 ⟨[(0,pD L s')],1⟩ _
   rw [e0]
   refine ⟨?_,trivial⟩
   rw [s1]
   exact ⟨_,rfl,Y0 L s'⟩
  ·have e3:=Wj (D:= [b]) (b:=b) (Ju.2 (by simp)) H.objs
   simp only [List.all_cons,List.all_nil,e3]
   rfl
theorem Jw.of {L:List (Sg×Nat)} {f:FuncId} {args:List VV} {s s':PSt} {u:VV}
  (h:Qc Tryz.prog f (.ptr 0 0::args) ⟨[(0,pD L s)],1⟩ (fun v K=>W0 1 ⟨Qw [0] K.objs,K.next⟩ v u∧K.get 0=some (pD L s'))):Jw L f args s u s':=by
 refine (Qc.trimC (Q':=fun v O2=>v=u∧O2= [(0,pD L s')]) ?_ h ?_).mono ?_
 ·intro b x hx
  rw [Q8] at hx
  split at hx
  ·injection hx with hx
   exact ⟨_,.inl hx.symm⟩
  ·simp [hget] at hx
 ·rintro v K ⟨hf,g1⟩
  refine ⟨u,[(0,pD L s')],rfl,fun b x hx=> ?_,⟨rfl,rfl⟩,hf⟩
  rw [Q8] at hx
  split at hx
  ·rename_i eb
   subst eb
   injection hx with hx
   subst hx
   refine ⟨g1,_,.inl rfl,fun v hv=> ?_⟩
   simp only [List.mem_cons,List.not_mem_nil,or_false] at hv
   rcases hv with rfl|rfl|rfl|rfl
   ·exact .of (Jl _)
   ·exact .of (Qb _)
   ·exact .of (Qb _)
   ·exact .of (Qb _)
  ·simp [hget] at hx
 ·rintro v K ⟨O2,⟨rfl,rfl⟩,rfl⟩
  exact ⟨rfl,rfl⟩
theorem Zc {L r:List (Sg×Nat)} {p:Sg×Nat} (h:(p::r) <:+ L):L[L.length - (r.length+1)]? = some p∧r.length+1≤L.length:=by
 obtain ⟨t,rfl⟩:=h
 constructor
 ·rw [List.length_append,List.length_cons,show t.length+(r.length+1) - (r.length+1)=t.length by omega,List.getElem?_append_right (Nat.le_refl _),Nat.sub_self]
  rfl
 ·simp
theorem B3 {n:Nat} {K:Heap} {b c:Bool} (h:b=c):W0 n K (.sc (.bool b)) (Yg c):=by subst h;exact .of (Qb _)
theorem Do (L:List (Sg×Nat)) (x:List UInt8) (s:PSt) (hw:WfL s.l) (hs:s.l <:+ L) (hn:L.length≤100000):Jw L 22 [Qe x] s (Yg (isS x s).1) s:=by
 refine Jw.of ?_
 obtain ⟨l,d,e⟩:=s
 obtain ⟨g,a,r,rfl⟩:=hw.ne
 obtain ⟨hi,hlen⟩:=Zc hs
 obtain ⟨kd,tx,nm⟩:=g
 have hR:(isS x ⟨(⟨kd,tx,nm⟩,a)::r,d,e⟩).1=decide (e=0∧tx=x∧(kd=2∨kd=5)):=by
  unfold isS
  dsimp only
  by_cases h:e=0∧tx=x∧(kd=2∨kd=5)
  ·rw [if_pos h];simp [h]
  ·rw [if_neg h];simp [h]
 rw [hR]
 unfold pD
 simp only [List.length_cons] at hi ⊢
 generalize hI:L.length - (r.length+1)=i at *
 have hil:i < L.length:=by omega
 refine Qc.go Tryz.func22 rfl ?_
 by_cases hc0:e=0
 ·by_cases hk:kd=2∨kd=5
  ·by_cases htx:tx=x
   ·subst hc0 htx
    rw [show decide ((0:Nat)=0∧tx=tx∧(kd=2∨kd=5))=true by simp [hk]]
    (repeat' (first|with_reducible refine And.intro ?_ ?_|(with_reducible intro hc;(try simp only [zz] at hc);try exact ct)|((conv=>whnf);first|(with_reducible first|refine And.intro ?_ ?_|intro hx|apply Val.via|apply Qi.via)|exact Is.mk rfl rfl|refine sp ?_|refine vx (by (first|exact Jm hi (J3 rfl rfl)|exact Qj 0 hi rfl rfl (Qp rfl rfl rfl)|exact Qj 1 hi rfl rfl (Qp rfl rfl rfl)|exact Qj 2 hi rfl rfl (Qp rfl rfl rfl)|exact Qj 3 hi rfl rfl (Qp rfl rfl rfl)|exact Qj 3 hi rfl rfl (Qp rfl (show (((i:Int)+1) - 1).toNat=i by omega) rfl)|exact Qa rfl rfl rfl|rfl)) ?_|refine dY ?_|fail|refine sq ?_)))
    (all_goals try exact om)
    all_goals exact Qf.mk ⟨B3 (by first|rfl|simp [*]),rfl⟩
   ·subst hc0
    rw [show decide ((0:Nat)=0∧tx=x∧(kd=2∨kd=5))=false by simp [htx]]
    (repeat' (first|with_reducible refine And.intro ?_ ?_|(with_reducible intro hc;(try simp only [zz] at hc);try exact ct)|((conv=>whnf);first|(with_reducible first|refine And.intro ?_ ?_|intro hx|apply Val.via|apply Qi.via)|exact Is.mk rfl rfl|refine sp ?_|refine vx (by (first|exact Jm hi (J3 rfl rfl)|exact Qj 0 hi rfl rfl (Qp rfl rfl rfl)|exact Qj 1 hi rfl rfl (Qp rfl rfl rfl)|exact Qj 2 hi rfl rfl (Qp rfl rfl rfl)|exact Qj 3 hi rfl rfl (Qp rfl rfl rfl)|exact Qj 3 hi rfl rfl (Qp rfl (show (((i:Int)+1) - 1).toNat=i by omega) rfl)|exact Qa rfl rfl rfl|rfl)) ?_|refine dY ?_|fail|refine sq ?_)))
    (all_goals try exact om)
    all_goals exact Qf.mk ⟨B3 (by first|rfl|simp [*]),rfl⟩
  ·rw [show decide (e=0∧tx=x∧(kd=2∨kd=5))=false by simp [hk]]
   (repeat' (first|with_reducible refine And.intro ?_ ?_|(with_reducible intro hc;(try simp only [zz] at hc);try exact ct)|((conv=>whnf);first|(with_reducible first|refine And.intro ?_ ?_|intro hx|apply Val.via|apply Qi.via)|exact Is.mk rfl rfl|refine sp ?_|refine vx (by (first|exact Jm hi (J3 rfl rfl)|exact Qj 0 hi rfl rfl (Qp rfl rfl rfl)|exact Qj 1 hi rfl rfl (Qp rfl rfl rfl)|exact Qj 2 hi rfl rfl (Qp rfl rfl rfl)|exact Qj 3 hi rfl rfl (Qp rfl rfl rfl)|exact Qj 3 hi rfl rfl (Qp rfl (show (((i:Int)+1) - 1).toNat=i by omega) rfl)|exact Qa rfl rfl rfl|rfl)) ?_|refine dY ?_|fail|refine sq ?_)))
   (all_goals try exact om)
   all_goals exact Qf.mk ⟨B3 (by first|rfl|simp [*]),rfl⟩
 ·rw [show decide (e=0∧tx=x∧(kd=2∨kd=5))=false by simp [hc0]]
  (repeat' (first|with_reducible refine And.intro ?_ ?_|(with_reducible intro hc;(try simp only [zz] at hc);try exact ct)|((conv=>whnf);first|(with_reducible first|refine And.intro ?_ ?_|intro hx|apply Val.via|apply Qi.via)|exact Is.mk rfl rfl|refine sp ?_|refine vx (by (first|exact Jm hi (J3 rfl rfl)|exact Qj 0 hi rfl rfl (Qp rfl rfl rfl)|exact Qj 1 hi rfl rfl (Qp rfl rfl rfl)|exact Qj 2 hi rfl rfl (Qp rfl rfl rfl)|exact Qj 3 hi rfl rfl (Qp rfl rfl rfl)|exact Qj 3 hi rfl rfl (Qp rfl (show (((i:Int)+1) - 1).toNat=i by omega) rfl)|exact Qa rfl rfl rfl|rfl)) ?_|refine dY ?_|fail|refine sq ?_)))
  (all_goals try exact om)
  all_goals exact Qf.mk ⟨B3 (by first|rfl|simp [*]),rfl⟩
theorem Kq {L r:List (Sg×Nat)} {p:Sg×Nat} {d e:Nat} (h:(p::r) <:+ L) {z:Int} (hz:z=((L.length - (r.length+1):Nat):Int)+1):some (VObj.cells true [.ro L.length (Xw L),.sc (.int .i64 z),iV d,iV e])=some (pD L ⟨r,d,e⟩):=by
 have h2:=(Zc h).2
 have e1:z=((L.length - r.length:Nat):Int):=by omega
 subst e1
 rfl
theorem K7 {x:List UInt8} {s:PSt} (h:(isS x s).1=true): ∃ p r,s.l=p::r∧(isS x s).2=⟨r,s.d,s.e⟩∧s.e=0:=by
 obtain ⟨l,d,e⟩:=s
 cases l with
 | nil=>cases h
 | cons q r =>
  obtain ⟨g,a⟩:=q
  simp only [isS] at h ⊢
  by_cases hc:e=0∧g.text=x∧(g.kind=2∨g.kind=5)
  ·rw [if_pos hc]
   exact ⟨(g,a),r,rfl,rfl,hc.1⟩
  ·rw [if_neg hc] at h
   cases h
theorem C7 (L:List (Sg×Nat)) (x:List UInt8) (s:PSt) (hw:WfL s.l) (hs:s.l <:+ L) (hn:L.length≤100000):Jw L 20 [Qe x] s (.tp []) (Q5 x s):=by
 refine Jw.of ?_
 have k1:=fun (H:Heap) (hb:H.get 0=some (pD L s))=>Jw.at (Qb _) (by simp [Qd]) (Do L x s hw hs hn) hb
 unfold Q5
 cases hi:(isS x s).1 with
 | true =>
  obtain ⟨p,r,h1,h2,h3⟩:=K7 hi
  rw [hi] at k1
  rw [if_pos rfl,h2]
  obtain ⟨l,d,e⟩:=s
  simp only at h1 h2 h3 hs
  subst h1 h3
  have hle:=(Zc hs).2
  have hpn:=fun z hz=>Kq (L:=L) (r:=r) (p:=p) (d:=d) (e:=0) hs (z:=z) hz
  unfold pD at k1 ⊢
  simp only [List.length_cons] at k1 ⊢
  refine Qc.go Tryz.func20 rfl ?_
  (repeat' (first|with_reducible refine And.intro ?_ ?_|(with_reducible intro hc;(try simp only [zz] at hc);try exact ct)|((conv=>whnf);first|(with_reducible first|refine And.intro ?_ ?_|intro hx|apply Val.via|apply Qi.via)|exact Is.mk rfl rfl|refine sp ?_|refine vx (by (first|exact Jm hi (J3 rfl rfl)|exact Qj 0 hi rfl rfl (Qp rfl rfl rfl)|exact Qj 1 hi rfl rfl (Qp rfl rfl rfl)|exact Qj 2 hi rfl rfl (Qp rfl rfl rfl)|exact Qj 3 hi rfl rfl (Qp rfl rfl rfl)|exact Qj 3 hi rfl rfl (Qp rfl (show (((i:Int)+1) - 1).toNat=i by omega) rfl)|exact Qa rfl rfl rfl|rfl)) ?_|refine dY ?_|refine cl (k1 _ rfl) ?_|refine sq ?_)))
  (all_goals try exact om)
  all_goals exact Qf.mk ⟨.tp0',hpn _ (by omega)⟩
 | false =>
  rw [hi] at k1
  rw [if_neg (by decide)]
  obtain ⟨l,d,e⟩:=s
  unfold Yt
  unfold pD at k1 ⊢
  by_cases he:e=0
  ·subst he
   rw [if_pos rfl]
   refine Qc.go Tryz.func20 rfl ?_
   (repeat' (first|with_reducible refine And.intro ?_ ?_|(with_reducible intro hc;(try simp only [zz] at hc);try exact ct)|((conv=>whnf);first|(with_reducible first|refine And.intro ?_ ?_|intro hx|apply Val.via|apply Qi.via)|exact Is.mk rfl rfl|refine sp ?_|refine vx (by (first|exact Jm hi (J3 rfl rfl)|exact Qj 0 hi rfl rfl (Qp rfl rfl rfl)|exact Qj 1 hi rfl rfl (Qp rfl rfl rfl)|exact Qj 2 hi rfl rfl (Qp rfl rfl rfl)|exact Qj 3 hi rfl rfl (Qp rfl rfl rfl)|exact Qj 3 hi rfl rfl (Qp rfl (show (((i:Int)+1) - 1).toNat=i by omega) rfl)|exact Qa rfl rfl rfl|rfl)) ?_|refine dY ?_|refine cl (k1 _ rfl) ?_|refine sq ?_)))
   (all_goals try exact om)
   all_goals exact Qf.mk ⟨.tp0',rfl⟩
  ·rw [if_neg he]
   refine Qc.go Tryz.func20 rfl ?_
   (repeat' (first|with_reducible refine And.intro ?_ ?_|(with_reducible intro hc;(try simp only [zz] at hc);try exact ct)|((conv=>whnf);first|(with_reducible first|refine And.intro ?_ ?_|intro hx|apply Val.via|apply Qi.via)|exact Is.mk rfl rfl|refine sp ?_|refine vx (by (first|exact Jm hi (J3 rfl rfl)|exact Qj 0 hi rfl rfl (Qp rfl rfl rfl)|exact Qj 1 hi rfl rfl (Qp rfl rfl rfl)|exact Qj 2 hi rfl rfl (Qp rfl rfl rfl)|exact Qj 3 hi rfl rfl (Qp rfl rfl rfl)|exact Qj 3 hi rfl rfl (Qp rfl (show (((i:Int)+1) - 1).toNat=i by omega) rfl)|exact Qa rfl rfl rfl|rfl)) ?_|refine dY ?_|refine cl (k1 _ rfl) ?_|refine sq ?_)))
   (all_goals try exact om)
   all_goals exact Qf.mk ⟨.tp0',rfl⟩
theorem down_call (L:List (Sg×Nat)) (s:PSt) (hd:s.d≤100000):Jw L 44 [] s (Yg (decide ((X3 s).e=0))) (X3 s):=by
 refine Jw.of ?_
 obtain ⟨l,d,e⟩:=s
 have hd:d≤100000:=hd
 have hpe: ∀ (z:Int) (e:Nat),z=(d:Int)+1→some (VObj.cells true [.ro L.length (Xw L),iV ((L.length - l.length:Nat):Int),.sc (.int .i64 z),iV e])=some (pD L ⟨l,d+1,e⟩):=fun z e hz=>by
  have:z=((d+1:Nat):Int):=by omega
  subst this
  rfl
 unfold X3
 dsimp only
 have hpd:pD L ⟨l,d,e⟩= .cells true [.ro L.length (Xw L),iV ((L.length - l.length:Nat):Int),iV d,iV e]:=rfl
 rw [hpd]
 generalize L.length - l.length=i at *
 refine Qc.go Tryz.func44 rfl ?_
 by_cases he:e=0
 ·subst he
  by_cases h16:d=16
  ·subst h16
   simp only [show (0:Nat)=0∧(16:Nat)=16 from ⟨rfl,rfl⟩,and_self,if_true]
   rw [show decide ((9:Nat)=0)=false from rfl]
   (repeat' (first|with_reducible refine And.intro ?_ ?_|(with_reducible intro hc;(try simp only [zz] at hc);try exact ct)|((conv=>whnf);first|(with_reducible first|refine And.intro ?_ ?_|intro hx|apply Val.via|apply Qi.via)|exact Is.mk rfl rfl|refine sp ?_|refine vx (by (first|exact Jm hi (J3 rfl rfl)|exact Qj 0 hi rfl rfl (Qp rfl rfl rfl)|exact Qj 1 hi rfl rfl (Qp rfl rfl rfl)|exact Qj 2 hi rfl rfl (Qp rfl rfl rfl)|exact Qj 3 hi rfl rfl (Qp rfl rfl rfl)|exact Qj 3 hi rfl rfl (Qp rfl (show (((i:Int)+1) - 1).toNat=i by omega) rfl)|exact Qa rfl rfl rfl|rfl)) ?_|refine dY ?_|fail|refine sq ?_)))
   (all_goals try exact om)
   all_goals exact Qf.mk ⟨B3 (by first|rfl|simp [Ei, *]),hpe _ _ (by omega)⟩
  ·rw [if_neg (fun h=>h16 h.2)]
   (repeat' (first|with_reducible refine And.intro ?_ ?_|(with_reducible intro hc;(try simp only [zz] at hc);try exact ct)|((conv=>whnf);first|(with_reducible first|refine And.intro ?_ ?_|intro hx|apply Val.via|apply Qi.via)|exact Is.mk rfl rfl|refine sp ?_|refine vx (by (first|exact Jm hi (J3 rfl rfl)|exact Qj 0 hi rfl rfl (Qp rfl rfl rfl)|exact Qj 1 hi rfl rfl (Qp rfl rfl rfl)|exact Qj 2 hi rfl rfl (Qp rfl rfl rfl)|exact Qj 3 hi rfl rfl (Qp rfl rfl rfl)|exact Qj 3 hi rfl rfl (Qp rfl (show (((i:Int)+1) - 1).toNat=i by omega) rfl)|exact Qa rfl rfl rfl|rfl)) ?_|refine dY ?_|fail|refine sq ?_)))
   (all_goals try exact om)
   all_goals exact Qf.mk ⟨B3 (by first|rfl|simp [Ei, *]),hpe _ _ (by omega)⟩
 ·rw [if_neg (fun h=>he h.1),show decide (e=0)=false by simp [he]]
  (repeat' (first|with_reducible refine And.intro ?_ ?_|(with_reducible intro hc;(try simp only [zz] at hc);try exact ct)|((conv=>whnf);first|(with_reducible first|refine And.intro ?_ ?_|intro hx|apply Val.via|apply Qi.via)|exact Is.mk rfl rfl|refine sp ?_|refine vx (by (first|exact Jm hi (J3 rfl rfl)|exact Qj 0 hi rfl rfl (Qp rfl rfl rfl)|exact Qj 1 hi rfl rfl (Qp rfl rfl rfl)|exact Qj 2 hi rfl rfl (Qp rfl rfl rfl)|exact Qj 3 hi rfl rfl (Qp rfl rfl rfl)|exact Qj 3 hi rfl rfl (Qp rfl (show (((i:Int)+1) - 1).toNat=i by omega) rfl)|exact Qa rfl rfl rfl|rfl)) ?_|refine dY ?_|fail|refine sq ?_)))
  (all_goals try exact om)
  all_goals exact Qf.mk ⟨B3 (by first|rfl|simp [Ei, *]),hpe _ _ (by omega)⟩
theorem rname_call (L:List (Sg×Nat)) (s:PSt) (hw:WfL s.l) (hs:s.l <:+ L) (hn:L.length≤100000):Jw L 21 [] s (Qe (nmS s).1) (nmS s).2:=by
 refine Jw.of ?_
 obtain ⟨l,d,e⟩:=s
 obtain ⟨g,a,r,rfl⟩:=hw.ne
 obtain ⟨hi,hlen⟩:=Zc hs
 obtain ⟨kd,tx,nm⟩:=g
 have hpn:=fun z hz=>Kq (L:=L) (r:=r) (d:=d) (e:=0) hs (z:=z) hz
 have hR:nmS ⟨(⟨kd,tx,nm⟩,a)::r,d,e⟩=if e=0∧kd=1 then (tx,⟨r,d,e⟩) else ([],Yt 2 ⟨(⟨kd,tx,nm⟩,a)::r,d,e⟩):=by
  unfold nmS Xv
  dsimp only
  by_cases h:e=0∧kd=1
  ·rw [if_pos h,if_pos h]
  ·rw [if_neg h,if_neg h]
 rw [hR]
 have hpd:pD L ⟨(⟨kd,tx,nm⟩,a)::r,d,e⟩= .cells true [.ro L.length (Xw L),iV ((L.length - (r.length+1):Nat):Int),iV d,iV e]:=rfl
 rw [hpd]
 generalize hI:L.length - (r.length+1)=i at *
 have hil:i < L.length:=by omega
 refine Qc.go Tryz.func21 rfl ?_
 by_cases hc0:e=0
 ·subst hc0
  by_cases hk:kd=1
  ·subst hk
   rw [if_pos ⟨rfl,rfl⟩]
   (repeat' (first|with_reducible refine And.intro ?_ ?_|(with_reducible intro hc;(try simp only [zz] at hc);try exact ct)|((conv=>whnf);first|(with_reducible first|refine And.intro ?_ ?_|intro hx|apply Val.via|apply Qi.via)|exact Is.mk rfl rfl|refine sp ?_|refine vx (by (first|exact Jm hi (J3 rfl rfl)|exact Qj 0 hi rfl rfl (Qp rfl rfl rfl)|exact Qj 1 hi rfl rfl (Qp rfl rfl rfl)|exact Qj 2 hi rfl rfl (Qp rfl rfl rfl)|exact Qj 3 hi rfl rfl (Qp rfl rfl rfl)|exact Qj 3 hi rfl rfl (Qp rfl (show (((i:Int)+1) - 1).toNat=i by omega) rfl)|exact Qa rfl rfl rfl|rfl)) ?_|refine dY ?_|fail|refine sq ?_)))
   (all_goals try exact om)
   all_goals exact Qf.mk ⟨.of (Qd _),hpn _ (by omega)⟩
  ·rw [if_neg (fun h=>hk h.2)]
   (repeat' (first|with_reducible refine And.intro ?_ ?_|(with_reducible intro hc;(try simp only [zz] at hc);try exact ct)|((conv=>whnf);first|(with_reducible first|refine And.intro ?_ ?_|intro hx|apply Val.via|apply Qi.via)|exact Is.mk rfl rfl|refine sp ?_|refine vx (by (first|exact Jm hi (J3 rfl rfl)|exact Qj 0 hi rfl rfl (Qp rfl rfl rfl)|exact Qj 1 hi rfl rfl (Qp rfl rfl rfl)|exact Qj 2 hi rfl rfl (Qp rfl rfl rfl)|exact Qj 3 hi rfl rfl (Qp rfl rfl rfl)|exact Qj 3 hi rfl rfl (Qp rfl (show (((i:Int)+1) - 1).toNat=i by omega) rfl)|exact Qa rfl rfl rfl|rfl)) ?_|refine dY ?_|fail|refine sq ?_)))
   (all_goals try exact om)
   all_goals exact Qf.mk ⟨.of (Qd _),by rw [← hI];rfl⟩
 ·rw [if_neg (fun h=>hc0 h.1),Yt,if_neg hc0]
  (repeat' (first|with_reducible refine And.intro ?_ ?_|(with_reducible intro hc;(try simp only [zz] at hc);try exact ct)|((conv=>whnf);first|(with_reducible first|refine And.intro ?_ ?_|intro hx|apply Val.via|apply Qi.via)|exact Is.mk rfl rfl|refine sp ?_|refine vx (by (first|exact Jm hi (J3 rfl rfl)|exact Qj 0 hi rfl rfl (Qp rfl rfl rfl)|exact Qj 1 hi rfl rfl (Qp rfl rfl rfl)|exact Qj 2 hi rfl rfl (Qp rfl rfl rfl)|exact Qj 3 hi rfl rfl (Qp rfl rfl rfl)|exact Qj 3 hi rfl rfl (Qp rfl (show (((i:Int)+1) - 1).toNat=i by omega) rfl)|exact Qa rfl rfl rfl|rfl)) ?_|refine dY ?_|fail|refine sq ?_)))
  (all_goals try exact om)
  all_goals exact Qf.mk ⟨.of (Qd _),by rw [← hI];rfl⟩
theorem Bc (L:List (List UInt8)) (hL:L.length≤100000) (x:List UInt8) {H:Heap} {b:Nat} {c:Option Nat} {v:VV} (hg:H.get b=some (.cells true (L.map Qe))) (hv:v=Qe x):Qc Tryz.prog 24 [.sl b 0 L.length c 1,v] H (fun u K=>u=Yg (L.contains x)∧K=H):=by
 subst hv
 have h0:=(dinL_call L hL x ⟨[],0⟩).mono (R':=fun v K=>Frx K v (Yg (L.contains x))) (fun v K e=>by rw [e.1];exact Frx.of (Xn _))
 have hv:=Kv.sl (b:=b) (o:=0) (n:=L.length) (z:=1) (c:=c) hg (by simp) (Jg Qd L)
 rw [List.drop_zero,List.take_of_length_le (by simp)] at hv
 exact Qc.viewed (.cons hv (.cons (Kv.of (Qd x)) .nil)) h0 (fun v K h=>h)
def rkI (n:Nat):VV:= .sc (.int .i64 (if n < 5 then (n:Int) else -1))
theorem Eb (x:List UInt8) (H:Heap):Qc Tryz.prog 31 [Qe x] H (fun v K=>v=rkI (rkN x)∧K=H):=by
 refine Qc.pure (by simp [Qd]) (Qb _) ?_
 generalize hR:rkI (rkN x)=R
 refine Qc.go Tryz.func31 rfl ?_
 (repeat' (first|with_reducible refine And.intro ?_ ?_|(with_reducible intro hc;(try simp only [zz] at hc);try exact ct)|((conv=>whnf);first|(with_reducible first|refine And.intro ?_ ?_|intro hx|apply Val.via|apply Qi.via)|exact Is.mk rfl rfl|refine sp ?_|refine vx (by (first|exact Qa rfl rfl rfl|rfl)) ?_|refine dY ?_|fail|refine sq ?_)))
 (all_goals try exact om)
 (refine Ji.mk (GWP.loopB [] (fun (j:Nat)=>j≤5∧ ∀ i,i < j→(opL i).contains x=false) (fun j=> [(11,iV j)]) (fun _=> []) 5 (fun j=>5 - j) 0 ⟨Nat.zero_le _,fun i h=>absurd h (Nat.not_lt_zero _)⟩ ?_);(conv=>whnf);refine And.intro ?_ ?_)
 ·focus (refine ka [] ?_ ?_;all_goals (repeat' (first|exact rz|refine And.intro ?_ ?_|refine Exists.intro _ (And.intro rfl ?_)|refine ro ?_|refine Qu.cons ?_ ?_|fail|exact rv)))
 rintro j ⟨g1,g2⟩
 simp only at g1 g2 ⊢
 have hj:j=0∨j=1∨j=2∨j=3∨j=4∨j=5:=by omega
 rcases hj with rfl|rfl|rfl|rfl|rfl|rfl
 ·(focus (have kc:=fun {H b v c} hg hv=>Bc (opL 0) (by decide) x (H:=H) (b:=b) (c:=c) (v:=v) hg hv;cases hx:(opL 0).contains x with|true=>(rw [hx] at kc;have hr:rkN x=0:=(Ni x 0 (by decide)).1 hx;rw [hr] at hR;subst hR;(repeat' (first|with_reducible refine And.intro ?_ ?_|(with_reducible intro hc;(try simp only [zz] at hc);try exact ct)|((conv=>whnf);first|(with_reducible first|refine And.intro ?_ ?_|intro hx|apply Val.via|apply Qi.via)|exact Is.mk rfl rfl|refine sp ?_|refine vx (by (first|exact Qa rfl rfl rfl|rfl)) ?_|refine dY ?_|refine cl (kc rfl rfl) ?_|refine sq ?_)));(all_goals try exact om);all_goals exact Qf.mk rfl)|false=>(rw [hx] at kc;(repeat' (first|with_reducible refine And.intro ?_ ?_|(with_reducible intro hc;(try simp only [zz] at hc);try exact ct)|((conv=>whnf);first|(with_reducible first|refine And.intro ?_ ?_|intro hx|apply Val.via|apply Qi.via)|exact Is.mk rfl rfl|refine sp ?_|refine vx (by (first|exact Qa rfl rfl rfl|rfl)) ?_|refine dY ?_|refine cl (kc rfl rfl) ?_|refine sq ?_)));(all_goals try exact om);focus (refine Qf.mk ⟨0+1,⟨by omega,fun i hi=>(by cases Nat.lt_or_eq_of_le (Nat.le_of_lt_succ hi) with|inl h=>exact g2 i h|inr h=>subst h;exact hx)⟩,?_,ka [] ?_ ?_⟩;(first|omega|(simp only;omega));all_goals (repeat' (first|exact rz|refine And.intro ?_ ?_|refine Exists.intro _ (And.intro rfl ?_)|refine ro ?_|refine Qu.cons ?_ ?_|exact Qn.eq rfl (Qb _)|exact rv))))))
 ·(focus (have kc:=fun {H b v c} hg hv=>Bc (opL 1) (by decide) x (H:=H) (b:=b) (c:=c) (v:=v) hg hv;cases hx:(opL 1).contains x with|true=>(rw [hx] at kc;have hr:rkN x=1:=(Ni x 1 (by decide)).1 hx;rw [hr] at hR;subst hR;(repeat' (first|with_reducible refine And.intro ?_ ?_|(with_reducible intro hc;(try simp only [zz] at hc);try exact ct)|((conv=>whnf);first|(with_reducible first|refine And.intro ?_ ?_|intro hx|apply Val.via|apply Qi.via)|exact Is.mk rfl rfl|refine sp ?_|refine vx (by (first|exact Qa rfl rfl rfl|rfl)) ?_|refine dY ?_|refine cl (kc rfl rfl) ?_|refine sq ?_)));(all_goals try exact om);all_goals exact Qf.mk rfl)|false=>(rw [hx] at kc;(repeat' (first|with_reducible refine And.intro ?_ ?_|(with_reducible intro hc;(try simp only [zz] at hc);try exact ct)|((conv=>whnf);first|(with_reducible first|refine And.intro ?_ ?_|intro hx|apply Val.via|apply Qi.via)|exact Is.mk rfl rfl|refine sp ?_|refine vx (by (first|exact Qa rfl rfl rfl|rfl)) ?_|refine dY ?_|refine cl (kc rfl rfl) ?_|refine sq ?_)));(all_goals try exact om);focus (refine Qf.mk ⟨1+1,⟨by omega,fun i hi=>(by cases Nat.lt_or_eq_of_le (Nat.le_of_lt_succ hi) with|inl h=>exact g2 i h|inr h=>subst h;exact hx)⟩,?_,ka [] ?_ ?_⟩;(first|omega|(simp only;omega));all_goals (repeat' (first|exact rz|refine And.intro ?_ ?_|refine Exists.intro _ (And.intro rfl ?_)|refine ro ?_|refine Qu.cons ?_ ?_|exact Qn.eq rfl (Qb _)|exact rv))))))
 ·(focus (have kc:=fun {H b v c} hg hv=>Bc (opL 2) (by decide) x (H:=H) (b:=b) (c:=c) (v:=v) hg hv;cases hx:(opL 2).contains x with|true=>(rw [hx] at kc;have hr:rkN x=2:=(Ni x 2 (by decide)).1 hx;rw [hr] at hR;subst hR;(repeat' (first|with_reducible refine And.intro ?_ ?_|(with_reducible intro hc;(try simp only [zz] at hc);try exact ct)|((conv=>whnf);first|(with_reducible first|refine And.intro ?_ ?_|intro hx|apply Val.via|apply Qi.via)|exact Is.mk rfl rfl|refine sp ?_|refine vx (by (first|exact Qa rfl rfl rfl|rfl)) ?_|refine dY ?_|refine cl (kc rfl rfl) ?_|refine sq ?_)));(all_goals try exact om);all_goals exact Qf.mk rfl)|false=>(rw [hx] at kc;(repeat' (first|with_reducible refine And.intro ?_ ?_|(with_reducible intro hc;(try simp only [zz] at hc);try exact ct)|((conv=>whnf);first|(with_reducible first|refine And.intro ?_ ?_|intro hx|apply Val.via|apply Qi.via)|exact Is.mk rfl rfl|refine sp ?_|refine vx (by (first|exact Qa rfl rfl rfl|rfl)) ?_|refine dY ?_|refine cl (kc rfl rfl) ?_|refine sq ?_)));(all_goals try exact om);focus (refine Qf.mk ⟨2+1,⟨by omega,fun i hi=>(by cases Nat.lt_or_eq_of_le (Nat.le_of_lt_succ hi) with|inl h=>exact g2 i h|inr h=>subst h;exact hx)⟩,?_,ka [] ?_ ?_⟩;(first|omega|(simp only;omega));all_goals (repeat' (first|exact rz|refine And.intro ?_ ?_|refine Exists.intro _ (And.intro rfl ?_)|refine ro ?_|refine Qu.cons ?_ ?_|exact Qn.eq rfl (Qb _)|exact rv))))))
 ·(focus (have kc:=fun {H b v c} hg hv=>Bc (opL 3) (by decide) x (H:=H) (b:=b) (c:=c) (v:=v) hg hv;cases hx:(opL 3).contains x with|true=>(rw [hx] at kc;have hr:rkN x=3:=(Ni x 3 (by decide)).1 hx;rw [hr] at hR;subst hR;(repeat' (first|with_reducible refine And.intro ?_ ?_|(with_reducible intro hc;(try simp only [zz] at hc);try exact ct)|((conv=>whnf);first|(with_reducible first|refine And.intro ?_ ?_|intro hx|apply Val.via|apply Qi.via)|exact Is.mk rfl rfl|refine sp ?_|refine vx (by (first|exact Qa rfl rfl rfl|rfl)) ?_|refine dY ?_|refine cl (kc rfl rfl) ?_|refine sq ?_)));(all_goals try exact om);all_goals exact Qf.mk rfl)|false=>(rw [hx] at kc;(repeat' (first|with_reducible refine And.intro ?_ ?_|(with_reducible intro hc;(try simp only [zz] at hc);try exact ct)|((conv=>whnf);first|(with_reducible first|refine And.intro ?_ ?_|intro hx|apply Val.via|apply Qi.via)|exact Is.mk rfl rfl|refine sp ?_|refine vx (by (first|exact Qa rfl rfl rfl|rfl)) ?_|refine dY ?_|refine cl (kc rfl rfl) ?_|refine sq ?_)));(all_goals try exact om);focus (refine Qf.mk ⟨3+1,⟨by omega,fun i hi=>(by cases Nat.lt_or_eq_of_le (Nat.le_of_lt_succ hi) with|inl h=>exact g2 i h|inr h=>subst h;exact hx)⟩,?_,ka [] ?_ ?_⟩;(first|omega|(simp only;omega));all_goals (repeat' (first|exact rz|refine And.intro ?_ ?_|refine Exists.intro _ (And.intro rfl ?_)|refine ro ?_|refine Qu.cons ?_ ?_|exact Qn.eq rfl (Qb _)|exact rv))))))
 ·(focus (have kc:=fun {H b v c} hg hv=>Bc (opL 4) (by decide) x (H:=H) (b:=b) (c:=c) (v:=v) hg hv;cases hx:(opL 4).contains x with|true=>(rw [hx] at kc;have hr:rkN x=4:=(Ni x 4 (by decide)).1 hx;rw [hr] at hR;subst hR;(repeat' (first|with_reducible refine And.intro ?_ ?_|(with_reducible intro hc;(try simp only [zz] at hc);try exact ct)|((conv=>whnf);first|(with_reducible first|refine And.intro ?_ ?_|intro hx|apply Val.via|apply Qi.via)|exact Is.mk rfl rfl|refine sp ?_|refine vx (by (first|exact Qa rfl rfl rfl|rfl)) ?_|refine dY ?_|refine cl (kc rfl rfl) ?_|refine sq ?_)));(all_goals try exact om);all_goals exact Qf.mk rfl)|false=>(rw [hx] at kc;(repeat' (first|with_reducible refine And.intro ?_ ?_|(with_reducible intro hc;(try simp only [zz] at hc);try exact ct)|((conv=>whnf);first|(with_reducible first|refine And.intro ?_ ?_|intro hx|apply Val.via|apply Qi.via)|exact Is.mk rfl rfl|refine sp ?_|refine vx (by (first|exact Qa rfl rfl rfl|rfl)) ?_|refine dY ?_|refine cl (kc rfl rfl) ?_|refine sq ?_)));(all_goals try exact om);focus (refine Qf.mk ⟨4+1,⟨by omega,fun i hi=>(by cases Nat.lt_or_eq_of_le (Nat.le_of_lt_succ hi) with|inl h=>exact g2 i h|inr h=>subst h;exact hx)⟩,?_,ka [] ?_ ?_⟩;(first|omega|(simp only;omega));all_goals (repeat' (first|exact rz|refine And.intro ?_ ?_|refine Exists.intro _ (And.intro rfl ?_)|refine ro ?_|refine Qu.cons ?_ ?_|exact Qn.eq rfl (Qb _)|exact rv))))))
 ·have hr:rkN x=5:=by
   unfold rkN
   rw [g2 0 (by decide),g2 1 (by decide),g2 2 (by decide),g2 3 (by decide),g2 4 (by decide)]
   rfl
  rw [hr] at hR
  subst hR
  (repeat' (first|with_reducible refine And.intro ?_ ?_|(with_reducible intro hc;(try simp only [zz] at hc);try exact ct)|((conv=>whnf);first|(with_reducible first|refine And.intro ?_ ?_|intro hx|apply Val.via|apply Qi.via)|exact Is.mk rfl rfl|refine sp ?_|refine vx (by (first|exact Qa rfl rfl rfl|rfl)) ?_|refine dY ?_|fail|refine sq ?_)))
  (all_goals try exact om)
  all_goals exact Qf.mk rfl
structure OkD (s s':PSt):Prop where
 ok:Ok s s'
 suf:s'.l <:+ s.l
theorem OkD.refl (s:PSt):OkD s s:=⟨.refl s,List.suffix_refl _⟩
theorem OkD.trans {a b c:PSt} (h:OkD a b) (g:OkD b c):OkD a c:=⟨h.ok.trans g.ok,g.suf.trans h.suf⟩
theorem X0 (x:List UInt8) (s:PSt):OkD s (isS x s).2:=by
 refine ⟨Xl x s,?_⟩
 unfold isS
 split
 ·exact List.suffix_refl _
 ·rename_i g a r hl
  split
  ·rw [hl];exact List.suffix_cons _ _
  ·exact List.suffix_refl _
theorem failP_okD (e:Nat) (s:PSt):OkD s (Yt e s):=by
 refine ⟨Fc e s,?_⟩
 unfold Yt
 split <;> exact List.suffix_refl _
theorem Xj (x:List UInt8) (s:PSt):OkD s (Q5 x s):=by
 unfold Q5
 split
 ·exact X0 x s
 ·exact failP_okD 2 s
theorem takeS_okD (k:Nat) (hk:k≠0) (s:PSt):OkD s (Xv k s).2:=by
 refine ⟨Ex k hk s,?_⟩
 unfold Xv
 split
 ·exact List.suffix_refl _
 ·rename_i g a r hl
  split
  ·rw [hl];exact List.suffix_cons _ _
  ·exact List.suffix_refl _
theorem U7 (s:PSt):OkD s (nmS s).2:=by
 have h:=takeS_okD 1 (by decide) s
 unfold nmS
 split
 ·rename_i g a s' e
  rw [e] at h
  exact h
 ·rename_i s' e
  rw [e] at h
  exact h.trans (failP_okD 2 s')
theorem upE_okD {s s':PSt} (h:OkD (X3 s) s'):OkD s (upE s'):=by
 refine ⟨⟨h.ok.wf,h.ok.len,?_,fun he=> ?_⟩,h.suf⟩
 ·have:=h.ok.dep
  show s'.d - 1=s.d
  rw [this]
  exact Nat.add_sub_cancel _ _
 ·have e1:=Dl he
  have:=h.ok.err (by rw [e1];exact he)
  show s'.e=s.e
  rw [this,e1]
theorem Dm {rd:PSt→Nd×PSt} (h: ∀ s,OkD s (rd s).2) (s:PSt):OkD s (Zk rd s).2:=by
 unfold Zk
 split
 ·exact upE_okD (h _)
 ·exact upE_okD (.refl _)
theorem lsLoopD_okD {rd:PSt→Nd×PSt} (h: ∀ s,OkD s (rd s).2): ∀ (f:Nat) (out:List Nd) (s:PSt),OkD s (Zs rd f out s).2
 | 0,out,s=> .refl s
 | f+1,out,s=>by
  have h1:=Dm h s
  rw [Zs]
  split
  ·split
   ·exact h1.trans (X0 _ _)
   ·exact (h1.trans (Xj _ _)).trans (lsLoopD_okD h f _ _)
  ·exact .refl s
theorem listD_okD {rd:PSt→Nd×PSt} (h: ∀ s,OkD s (rd s).2) (s:PSt):OkD s (D3 rd s).2:=by
 unfold D3
 split
 ·exact X0 _ _
 ·exact lsLoopD_okD h _ _ s
theorem climbD_okD {ex:Nat→PSt→Nd×PSt} {least:Nat} (hex: ∀ k s,OkD s (ex k s).2): ∀ (g m:Nat) (out:Nd) (s:PSt),OkD s (Zo ex least g m out s).2
 | 0,m,out,s=> .refl s
 | g+1,m,out,s=>by
  obtain ⟨l,d,e⟩:=s
  rw [Zo]
  split
  ·exact .refl _
  ·cases l with
   | nil=>exact .refl _
   | cons p r =>
    obtain ⟨q,a⟩:=p
    dsimp only
    split
    ·rename_i h1 h2
     have h3:OkD ⟨(q,a)::r,d,e⟩ ⟨r,d,e⟩:=⟨⟨fun w=>w.tail (by omega),by simp,rfl,fun _=>rfl⟩,List.suffix_cons _ _⟩
     exact (h3.trans (hex _ _)).trans (climbD_okD hex g _ _ _)
    ·exact .refl _
theorem Uh {un:PSt→Nd×PSt} (h: ∀ s,OkD s (un s).2): ∀ f least s,OkD s (Xx un f least s).2
 | 0,least,s=> .refl s
 | f+1,least,s=>by
  rw [Xx]
  exact (h s).trans (climbD_okD (fun k s=>Uh h f k s) _ _ _ _)
theorem primD_okD {un:PSt→Nd×PSt} (h: ∀ s,OkD s (un s).2) (s:PSt):OkD s (E2 un s).2:=by
 have t3:=takeS_okD 3 (by decide) s
 have t4:=takeS_okD 4 (by decide) s
 have hx:=Uh h 6 0
 unfold E2
 split
 ·rename_i g a s' e
  rw [e] at t3
  exact t3
 ·split
  ·rename_i g a s' e
   rw [e] at t4
   exact t4
  ·split
   ·exact X0 _ _
   ·split
    ·exact ((X0 _ _).trans (Dm hx _)).trans (Xj _ _)
    ·split
     ·exact ((U7 s).trans (X0 _ _)).trans (listD_okD hx _)
     ·exact U7 s
theorem Z6: ∀ (n:Nat) (s:PSt),OkD s (partD n s).2
 | 0,s=> .refl s
 | n+1,s=>by
  rw [partD]
  split
  ·exact .refl s
  ·split
   ·exact (X0 _ _).trans (Dm (Z6 n) _)
   ·split
    ·exact (X0 _ _).trans (Dm (Z6 n) _)
    ·exact primD_okD (Z6 n) s
theorem K9 (s:PSt):OkD s (exD s).2:=Uh (Z6 _) 6 0 s
theorem stLoopD_okD {st:PSt→Nd×PSt} (h: ∀ s',OkD s' (st s').2): ∀ (f:Nat) (out:List Nd) (s:PSt),OkD s (Yx st f out s).2
 | 0,out,s=> .refl s
 | f+1,out,s=>by
  rw [Yx]
  split
  ·exact (h s).trans (stLoopD_okD h f _ _)
  ·exact Xj _ _
theorem blockD_okD {st:PSt→Nd×PSt} (h: ∀ s',OkD s' (st s').2) (s:PSt):OkD s (B7 st s).2:=by
 unfold B7
 split
 ·exact (Xj _ _).trans (upE_okD (stLoopD_okD h _ _ _))
 ·exact (Xj _ _).trans (upE_okD (.refl _))
theorem setD_okD {s:PSt} (he:s.e=0) (h:N8 s=true):OkD s (setD s).2:=by
 rw [set_eq he h]
 exact (U7 s).trans (Xj _ _)
theorem ifD_okD {bl:PSt→Nd×PSt} (h: ∀ s',OkD s' (bl s').2) (s:PSt):OkD s (ifD bl s).2:=by
 unfold ifD
 have h1:=(K9 s).trans (h (exD s).2)
 split
 ·exact (h1.trans (X0 _ _)).trans (h _)
 ·exact h1
theorem stmtD_okD {bl:PSt→Nd×PSt} (h: ∀ s',OkD s' (bl s').2) (s:PSt):OkD s (U2 bl s).2:=by
 unfold U2
 split
 ·exact (X0 _ _).trans (ifD_okD h _)
 ·split
  ·exact ((X0 _ _).trans (K9 _)).trans (h _)
  ·split
   ·exact (X0 _ _).trans (Xj _ _)
   ·split
    ·rename_i hc
     exact ((setD_okD hc.1 hc.2).trans (K9 _)).trans (Xj _ _)
    ·exact (K9 s).trans (Xj _ _)
theorem Nc: ∀ (n:Nat) (s:PSt),OkD s (blD n s).2
 | 0,s=> .refl s
 | n+1,s=>blockD_okD (stmtD_okD (Nc n)) s
theorem varS_okD (s:PSt):OkD s (varS s).2:=U7 s
theorem lsLoop_okD {rd:PSt→Nd×PSt} (h: ∀ s,OkD s (rd s).2): ∀ (f:Nat) (out:List Nd) (s:PSt),OkD s (J4 rd f out s).2
 | 0,out,s=> .refl s
 | f+1,out,s=>by
  rw [J4]
  split
  ·split
   ·exact (h s).trans (X0 _ _)
   ·exact ((h s).trans (Xj _ _)).trans (lsLoop_okD h f _ _)
  ·exact .refl s
theorem listS_okD {rd:PSt→Nd×PSt} (h: ∀ s,OkD s (rd s).2) (s:PSt):OkD s (Xt rd s).2:=by
 unfold Xt
 split
 ·exact X0 _ _
 ·exact lsLoop_okD h _ _ s
theorem sty_ND:Dr Tryz.prog 31 4 56:=⟨⟨_,_,_,rfl,rfl,rfl,rfl,rfl,rfl⟩⟩
theorem Qo {vs:List VV} {o:Nat} (hl:vs.length=4) (ho:o=0):vat Tryz.prog 33 vs o=some (.ag vs):=by
 have h1:Dq Tryz.prog 33=some true:=by kernel_rfl
 have h2:Jv Tryz.prog 33=some 4:=by kernel_rfl
 subst ho
 have h3:Nat.ble (0+4) vs.length=true:=Nat.ble_eq_true_of_le (by omega)
 simp only [vat,h1,h2,h3,List.drop_zero]
 rw [List.take_of_length_le (by omega)]
theorem GOp.drawn1D {o:Oper} {ts:List VV} {H:Heap} {i:Nat} {n:Nd} (ho:o.op= .buildSlice 31 1 #[(0,.tmp i)]) (hx:ts[i]? = some (nV n)) (ha:(ts.set i .junk).all scB=true) :
  GOp Tryz.prog o ts H (fun x K'=>Is x (.ro 1 (rowsN [n])) K' H):=⟨by
 obtain ⟨op,tx,nm,ks⟩:=n
 have hn2: ∀ v∈rowsN [.mk op tx nm ks],Qq v:=Qh _
 have hv:vop Tryz.prog o ts ⟨[],0⟩=some (.sl 0 0 1 (some 1) 4,⟨[(0,.cells true (rowsN [.mk op tx nm ks]))],1⟩):=by
  have hz:Jv Tryz.prog 33=some 4:=by kernel_rfl
  have hl:Ke Tryz.prog 33=some [.sc (.int .i64 0),.sc (.string ⟨#[]⟩),.sc (.int .i64 0),.sc (.slice none 0 0)]:=by kernel_rfl
  have he:Ql ts (.tmp i)= .ag [iV op,Qe tx,iV nm,.ro ks.length (rowsN ks)]:=by simp only [Ql,hx,Option.getD_some,nV,cellsN]
  have h1:cellsOf (.ag [iV op,Qe tx,iV nm,.ro ks.length (rowsN ks)])=some [iV op,Qe tx,iV nm,.ro ks.length (rowsN ks)]:=rfl
  simp only [vop,ho,Y5,Tryz.underlying31,hz,hl,List.map_cons,List.map_nil,he,Cd,h1,rowsN,cellsN]
  rfl
 have hn: ∀ v∈ts,Qq v:=fun v hv=>by
  obtain ⟨j,hj,e⟩:=List.mem_iff_getElem.1 hv
  by_cases hji:j=i
  ·subst hji
   rw [List.getElem?_eq_getElem hj,e] at hx
   injection hx with hx
   subst hx
   exact Qk _
  ·refine Zd (List.all_eq_true.1 ha v ?_)
   refine List.mem_iff_getElem.2 ⟨j,by simpa using hj,?_⟩
   rw [List.getElem_set_ne (fun h=>hji h.symm)]
   exact e
 refine (Jb.frozen (u:= .ro 1 (rowsN [.mk op tx nm ks])) hn hv ?_).mono fun x K' e=>⟨e.1,e.2⟩
 have:=Frz.sl (K:=⟨[(0,.cells true (rowsN [.mk op tx nm ks]))],1⟩) (b:=0) (o:=0) (n:=1) (z:=4) (c:=some 1) rfl (by rw [Q0];simp) hn2
 rw [List.drop_zero,List.take_of_length_le (by rw [Q0];simp)] at this
 exact this⟩
theorem GOp.drawn2D {o:Oper} {ts:List VV} {H:Heap} {i k:Nat} {n m:Nd} (ho:o.op= .buildSlice 31 2 #[(0,.tmp i),(1,.tmp k)]) (hx:ts[i]? = some (nV n)) (hy:ts[k]? = some (nV m)) (ha:((ts.set i .junk).set k .junk).all scB=true) :
  GOp Tryz.prog o ts H (fun x K'=>Is x (.ro 2 (rowsN [n,m])) K' H):=⟨by
 obtain ⟨op,tx,nm,ks⟩:=n
 obtain ⟨op2,tx2,nm2,ks2⟩:=m
 have hn2: ∀ v∈rowsN [.mk op tx nm ks,.mk op2 tx2 nm2 ks2],Qq v:=Qh _
 have hv:vop Tryz.prog o ts ⟨[],0⟩=some (.sl 0 0 2 (some 2) 4,⟨[(0,.cells true (rowsN [.mk op tx nm ks,.mk op2 tx2 nm2 ks2]))],1⟩):=by
  have hz:Jv Tryz.prog 33=some 4:=by kernel_rfl
  have hl:Ke Tryz.prog 33=some [.sc (.int .i64 0),.sc (.string ⟨#[]⟩),.sc (.int .i64 0),.sc (.slice none 0 0)]:=by kernel_rfl
  have he:Ql ts (.tmp i)= .ag [iV op,Qe tx,iV nm,.ro ks.length (rowsN ks)]:=by simp only [Ql,hx,Option.getD_some,nV,cellsN]
  have he2:Ql ts (.tmp k)= .ag [iV op2,Qe tx2,iV nm2,.ro ks2.length (rowsN ks2)]:=by simp only [Ql,hy,Option.getD_some,nV,cellsN]
  have h1:cellsOf (.ag [iV op,Qe tx,iV nm,.ro ks.length (rowsN ks)])=some [iV op,Qe tx,iV nm,.ro ks.length (rowsN ks)]:=rfl
  have h2:cellsOf (.ag [iV op2,Qe tx2,iV nm2,.ro ks2.length (rowsN ks2)])=some [iV op2,Qe tx2,iV nm2,.ro ks2.length (rowsN ks2)]:=rfl
  simp only [vop,ho,Y5,Tryz.underlying31,hz,hl,List.map_cons,List.map_nil,he,he2,Cd,h1,h2,rowsN,cellsN]
  rfl
 have hn: ∀ v∈ts,Qq v:=fun v hv=>by
  obtain ⟨j,hj,e⟩:=List.mem_iff_getElem.1 hv
  by_cases hji:j=i
  ·subst hji
   rw [List.getElem?_eq_getElem hj,e] at hx
   injection hx with hx
   subst hx
   exact Qk _
  ·by_cases hjk:j=k
   ·subst hjk
    rw [List.getElem?_eq_getElem hj,e] at hy
    injection hy with hy
    subst hy
    exact Qk _
   ·refine Zd (List.all_eq_true.1 ha v ?_)
    refine List.mem_iff_getElem.2 ⟨j,by simpa using hj,?_⟩
    rw [List.getElem_set_ne (fun h=>hjk h.symm),List.getElem_set_ne (fun h=>hji h.symm)]
    exact e
 refine (Jb.frozen (u:= .ro 2 (rowsN [.mk op tx nm ks,.mk op2 tx2 nm2 ks2])) hn hv ?_).mono fun x K' e=>⟨e.1,e.2⟩
 have:=Frz.sl (K:=⟨[(0,.cells true (rowsN [.mk op tx nm ks,.mk op2 tx2 nm2 ks2]))],1⟩) (b:=0) (o:=0) (n:=2) (z:=4) (c:=some 2) rfl (by rw [Q0];simp) hn2
 rw [List.drop_zero,List.take_of_length_le (by rw [Q0];simp)] at this
 exact this⟩
theorem Qg {l:List Nd} {i o op nm:Nat} {tx:List UInt8} {ks:List Nd} (h:l[i]? = some (.mk op tx nm ks)) (ho:o=i*4):vat Tryz.prog 33 (rowsN l) o=some (.ag [iV op,Qe tx,iV nm,.ro ks.length (rowsN ks)]):=by
 have h1:Dq Tryz.prog 33=some true:=by kernel_rfl
 have h2:Jv Tryz.prog 33=some 4:=by kernel_rfl
 subst ho
 have key: ∀ (l:List Nd) (i:Nat) (n:Nd),l[i]? = some n→((rowsN l).drop (i*4)).take 4=cellsN n∧i*4+4≤(rowsN l).length:=by
  intro l
  induction l with
  | nil=>intro i n h;simp at h
  | cons q r ih =>
   intro i n h
   cases i with
   | zero =>
    simp at h
    subst h
    rw [rowsN]
    refine ⟨?_,by rw [List.length_append,Yj];omega⟩
    rw [Nat.zero_mul,List.drop_zero,List.take_append_of_le_length (by rw [Yj];exact Nat.le_refl _),List.take_of_length_le (by rw [Yj];exact Nat.le_refl _)]
   | succ i =>
    have ih:=ih i n (by simpa using h)
    rw [rowsN,show (i+1)*4=(cellsN q).length+i*4 by rw [Yj];omega,List.drop_append]
    refine ⟨?_,by rw [List.length_append];omega⟩
    rw [List.drop_of_length_le (by omega),List.nil_append,show (cellsN q).length+i*4 - (cellsN q).length=i*4 by omega]
    exact ih.1
 obtain ⟨k1,k2⟩:=key l i _ h
 have h3:Nat.ble (i*4+4) (rowsN l).length=true:=Nat.ble_eq_true_of_le k2
 simp only [vat,h1,h2,h3,k1,cellsN]
end Go.Proofs.YtnmjdjldbloefaaGreatDoor
