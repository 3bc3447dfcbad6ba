import Derived.Test.YtnmjdjldbloefaaGreatDoorPE5
import Derived.Test.YtnmjdjldbloefaaGreatDoorPG1
import Derived.Lib.Bytealg
/- (*strings.Builder).Len, at any name. -/
namespace Go.Proofs.YtnmjdjldbloefaaGreatDoor
open Go Go.RowKit
set_option linter.unusedSimpArgs false
set_option linter.unusedVariables false
set_option maxRecDepth 100000
set_option maxHeartbeats 4000000
theorem lenLaw (k:Nat) (a:Option Addr) (n c:Nat) (w:World) (h:w.cell? ⟨k,1,none⟩=some (.slice a n c)):Calls Tryz.prog 91 #[.pointer (some ⟨k,0,none⟩)] w fun e w'=>e= .returned (.int .i64 n)∧w'=w:=by
 go_enter Tryz.func91,Tryz.ntmps91
 go_wp2
 (first|go_ret|go_ret2|exact bodyPost_ret rfl rfl ⟨rfl,rfl⟩)
 exact ⟨rfl,rfl⟩
theorem blenAt {u:Bool} {l:List UInt8} {H:Heap} {b m:Nat} (hul:u=false→l= []) (hb:H.get b=some (sbV u b m l)):Qc Tryz.prog 91 [.ptr b 0] H (fun v K=>v=iV l.length∧K=H):=fun B M Z ρ w ra h1 h2=>by
 obtain ⟨y,rfl,hy⟩: ∃ y,ra= #[y]∧Qm w Z ρ (.ptr b 0) y:=by
  obtain ⟨ra⟩:=ra
  match ra,h2 with
  | [y],h2=>exact ⟨y,rfl,h2.2 0 _ _ rfl rfl⟩
  | [],h2=>have:=h2.1;simp at this
  | _::_::_,h2=>have:=h2.1;simp at this
 cases hy with
 | @ptr _ _ k N hk =>
  obtain ⟨a,c,hc⟩: ∃ a c,w.cell? ⟨k,1,none⟩=some (.slice a l.length c):=by
   cases u with
   | false =>
    obtain rfl:=hul rfl
    obtain ⟨rest,r1,r2,r3,r4,r5⟩:=h1.rawAt hb hk
    exact ⟨none,0,by rw [Jp r1];rfl⟩
   | true =>
    obtain ⟨k',N',cs,t,fr,g1,g2,g3,g4,g5⟩:=h1.at_ (b:=b) (r:=true) (vs:= [.ptr b 0,bufV m l]) hb
    rw [hk] at g1;injection g1 with g1;injection g1 with g1 g1';subst g1 g1'
    obtain ⟨c,hc,hr⟩:=g4 1 _ rfl
    rw [Jp g2]
    cases l with
    | nil =>
     cases hr with
     | sc=>exact ⟨none,0,by simpa using hc⟩
    | cons x r =>
     cases hr with
     | sl hk2 hn hcc hz=>exact ⟨_,_,by simpa using hc⟩
  refine (lenLaw k a l.length c w hc).mono ?_
  rintro e w' ⟨rfl,rfl⟩
  exact ⟨_,iV l.length,_,Z,ρ,rfl,⟨rfl,rfl⟩,Ext.refl _ _ _ _,h1,.sc rfl⟩
theorem hasPrefix_call (t m:List UInt8) (H:Heap) {b:Nat} {vs:List VV} {n:Nat} (hg:H.get b=some (.cells true vs)) (hv:vs=m.map bV) (hn:n=m.length) (ht:t.length≤100000):Qc Tryz.prog 65 [roB t,.sl b 0 n none 1] H (fun x K=>x=Yg (m.isPrefixOf t)∧K=H):=by
 subst hv hn
 refine Qc.viewed (args':= [roB t,roB m]) (Q:=fun v K=>v=Yg (m.isPrefixOf t)) (.cons (Kv.of (J2 t)) (.cons ?_ .nil)) ?_ (fun v K e=>by subst e;exact Frx.of (Xn _))
 ·have:=Kv.sl (H:=H) (b:=b) (o:=0) (n:=m.length) (z:=1) (c:=none) hg (by simp) (Jg Xa m)
  rw [List.drop_zero,Nat.mul_one,List.take_of_length_le (by simp)] at this
  unfold roB
  exact this
 ·have hpre:m.length≤t.length→(t.take m.length==m)=m.isPrefixOf t:=fun h=>by
   rw [Bool.eq_iff_iff,List.isPrefixOf_iff_prefix,beq_iff_eq,List.prefix_iff_eq_take]
   exact eq_comm
  refine Qc.go Tryz.func65 rfl ?_
  repeat' (first|with_reducible refine And.intro ?_ ?_|((with_reducible intro hc);(try simp only [zA,zB,zC,zD,zE,zF,zG,zH,zI,zJ,zK,zL,zM,zN,zO,zP,zQ,zR,zS,zT,zU,zV,zW] at hc);(first|exact absurd rfl hc|exact absurd trivial hc|(exfalso;omega)|skip))|((conv=>whnf);first|with_reducible refine And.intro ?_ ?_|refine Uf ?_ ?_|refine xA (by omega) ?_|(refine xB ?_;intro kw hk1 hk2)|refine xC (by omega) ?_|refine xD ?_|refine xE (by omega) ?_|refine xF (by omega) ?_|refine xG ?_|refine xH ?_|refine xI (by omega) ?_|refine xJ (by omega) ?_|(with_reducible refine stopA ?_)|refine Exists.intro _ (And.intro (by rfl) ?_)|refine GOp.via (by rfl) ?_|(with_reducible first|refine Qs ?_|refine stopE ?_|refine stopD ?_|refine stopW ?_|refine stopG ?_|refine stopC ?_|refine stopR ?_)))
  all_goals (first|omega|skip)
  ·have e:VV.ro (((m.length:Int)).toNat - 0) (((t.map bV).drop (0*1)).take ((((m.length:Int)).toNat - 0)*1))=roB (t.take m.length):=by
    have:=De (l:=t) (z:=1) (i:=0) (j:=m.length) rfl (by omega) (by omega)
    rw [Int.toNat_natCast,this,Nat.sub_zero,List.drop_zero]
   refine GCall'.mk (Qc.arg21 e ((equal_call (t.take m.length) m _).mono ?_))
   rintro _ _ ⟨rfl,rfl⟩
   rw [hpre (by omega)]
   repeat' (first|with_reducible refine And.intro ?_ ?_|((with_reducible intro hc);(try simp only [zA,zB,zC,zD,zE,zF,zG,zH,zI,zJ,zK,zL,zM,zN,zO,zP,zQ,zR,zS,zT,zU,zV,zW] at hc);(first|exact absurd rfl hc|exact absurd trivial hc|(exfalso;omega)|skip))|((conv=>whnf);first|with_reducible refine And.intro ?_ ?_|refine Uf ?_ ?_|refine xA (by omega) ?_|(refine xB ?_;intro kw hk1 hk2)|refine xC (by omega) ?_|refine xD ?_|refine xE (by omega) ?_|refine xF (by omega) ?_|refine xG ?_|refine xH ?_|refine xI (by omega) ?_|refine xJ (by omega) ?_|(with_reducible refine stopA ?_)|refine Exists.intro _ (And.intro (by rfl) ?_)|refine GOp.via (by rfl) ?_|(with_reducible first|refine Qs ?_|refine stopE ?_|refine stopD ?_|refine stopW ?_|refine stopG ?_|refine stopC ?_|refine stopR ?_)))
   exact Qf.mk rfl
  ·have:m.isPrefixOf t=false:=by
    cases hh:m.isPrefixOf t
    ·rfl
    ·have:=(List.isPrefixOf_iff_prefix.1 hh).length_le
     omega
   rw [this]
   exact Qf.mk rfl
def marksL:List (List UInt8):= [[61,61],[33,61],[60,61],[62,61],[60],[62],[61],[43],[45],[42],[47],[37],[40],[41],[123],[125],[44],[59]]
def Ww (c:UInt8):List UInt8:=if c.toNat=10 then [92,110] else if c.toNat=34 then [92,34] else if c.toNat=92 then [92,92] else [c]
def escL:List UInt8→List UInt8
 | []=> []
 | c::r=>Ww c++escL r
def Wg (t:List UInt8):List UInt8:=34::(escL t++ [34])
theorem escB_len (c:UInt8):1≤(Ww c).length∧(Ww c).length≤2:=by
 unfold Ww
 split
 ·simp
 ·split
  ·simp
  ·split <;> simp
theorem Wv: ∀ t:List UInt8,t.length≤(escL t).length∧(escL t).length≤2*t.length
 | []=>by simp [escL]
 | c::r=>by
  have h1:=escB_len c
  have h2:=Wv r
  simp only [escL,List.length_append,List.length_cons]
  omega
theorem escL_app: ∀ a b:List UInt8,escL (a++b)=escL a++escL b
 | [],_=>rfl
 | c::r,b=>by simp only [List.cons_append,escL,escL_app r b,List.append_assoc]
theorem Dj {t:List UInt8} {i:Nat} {c:UInt8} (h:t[i]? = some c):escL (t.take (i+1))=escL (t.take i)++Ww c:=by
 rw [List.take_add_one,h,escL_app]
 simp [escL]
theorem quote_len (t:List UInt8):(Wg t).length=(escL t).length+2:=by simp [Wg]
set_option maxHeartbeats 8000000
theorem ext_str (l:List UInt8) (a b:Nat):(⟨l.toArray⟩:ByteArray).extract a b=⟨((l.drop a).take (b - a)).toArray⟩:=by
 apply ByteArray.ext
 rw [ByteArray.data_extract]
 simp [List.extract_eq_take_drop]
theorem Bi (a c:List UInt8):((⟨a.toArray⟩:ByteArray)++⟨c.toArray⟩)=⟨(a++c).toArray⟩:=by
 apply ByteArray.ext
 simp
theorem catQ (a c:List UInt8):VV.sc (.string ((⟨a.toArray⟩:ByteArray)++⟨c.toArray⟩))=Qe (a++c):=by
 rw [Bi]
 rfl
theorem B5 {t:List UInt8} {i:Nat} {c:UInt8} (h:t[i]? = some c):(⟨t.toArray⟩:ByteArray).extract ((i:Int)).toNat ((i:Int)+1).toNat=⟨([c]:List UInt8).toArray⟩:=by
 have q:((i:Int)+1).toNat=i+1:=by omega
 rw [q,Int.toNat_natCast,ext_str,show i+1 - i=1 by omega]
 obtain ⟨hi,e⟩:=List.getElem?_eq_some_iff.1 h
 rw [List.drop_eq_getElem_cons hi,e]
 rfl
theorem catQ1 {t out:List UInt8} {i:Nat} {c:UInt8} (h:t[i]? = some c):VV.sc (.string ((⟨out.toArray⟩:ByteArray)++(⟨t.toArray⟩:ByteArray).extract ((i:Int)).toNat ((i:Int)+1).toNat))=Qe (out++ [c]):=by
 rw [B5 h,Bi]
 rfl
theorem catQ2 {t out:List UInt8} {i:Nat} {c:UInt8} (h:t[i]? = some c):VV.sc (.string (((⟨out.toArray⟩:ByteArray)++(⟨#[92]⟩:ByteArray))++(⟨t.toArray⟩:ByteArray).extract ((i:Int)).toNat ((i:Int)+1).toNat))=Qe (out++ [92,c]):=by
 have e1:(⟨#[92]⟩:ByteArray)=⟨([92]:List UInt8).toArray⟩:=rfl
 rw [B5 h,e1,Bi,Bi,List.append_assoc]
 rfl
theorem rquote_call (t:List UInt8) (ht:t.length≤1500) (H:Heap):Qc Tryz.prog 29 [Qe t] H (fun v K=>v=Qe (Wg t)∧K=H):=by
 refine Qc.pure (by simp [Qd]) (Qd _) ?_
 refine Qc.go Tryz.func29 rfl ?_
 repeat' (first|with_reducible refine And.intro ?_ ?_|(with_reducible intro hc;(try simp only [zz] at hc);try exact ct)|((conv=>whnf);first|(with_reducible first|refine And.intro ?_ ?_|intro hx|apply Val.via|apply Qi.via)|exact Is.mk rfl rfl|refine sp ?_|refine vx (by rfl) ?_|refine dY ?_|fail|refine sq ?_))
 (all_goals (first|omega|contradiction|(show (i:Int)+1≤(t.length:Int);omega)|(exfalso;have hmx:IntKind.i64.max=9223372036854775807:=rfl;rw [hmx] at hx;(try rw [B5 hb] at hx);simp [ByteArray.size_append,ByteArray.size] at hx;omega)|skip))
 (refine Ji.mk (GWP.loopB [] (fun (b:Nat×List UInt8)=>b.1≤t.length∧b.2=34::escL (t.take b.1)) (fun b=> [(3,Qe b.2),(4,iV b.1)]) (fun _=> []) 0 (fun b=>t.length - b.1) (0,[34]) ⟨Nat.zero_le _,rfl⟩ ?_);(conv=>whnf);refine And.intro ?_ ?_)
 ·focus (refine ka [] ?_ ?_;all_goals (repeat' (first|exact rz|refine And.intro ?_ ?_|refine Exists.intro _ (And.intro rfl ?_)|refine ro ?_|refine Qu.cons ?_ ?_|exact Qn.of (Qb _)|exact rv)))
 rintro ⟨i,out⟩ ⟨g1,g2⟩
 simp only at g1 g2 ⊢
 have hel:=Wv (t.take i)
 have htl:(t.take i).length≤t.length:=by simp;omega
 have hol:out.length≤3100:=by rw [g2];simp only [List.length_cons];omega
 by_cases hil:i < t.length
 ·obtain ⟨c,hb⟩: ∃ c,t[i]? = some c:=⟨_,List.getElem?_eq_getElem hil⟩
  have htk:=Dj hb
  have hcl:c.toNat < 256:=c.toNat_lt
  by_cases h10:c.toNat=10
  ·obtain rfl:c=10:=UInt8.toNat_inj.1 h10
   (repeat' (first|with_reducible refine And.intro ?_ ?_|(with_reducible intro hc;(try simp only [zz] at hc);try exact ct)|((conv=>whnf);first|(with_reducible first|refine And.intro ?_ ?_|intro hx|apply Val.via|apply Qi.via)|exact Is.mk rfl rfl|refine sp ?_|refine vx (by (first|exact hb|exact Qa rfl rfl rfl|rfl)) ?_|refine dY ?_|fail|refine sq ?_)))
   (all_goals (first|omega|contradiction|(show (i:Int)+1≤(t.length:Int);omega)|(exfalso;have hmx:IntKind.i64.max=9223372036854775807:=rfl;rw [hmx] at hx;(try rw [B5 hb] at hx);simp [ByteArray.size_append,ByteArray.size] at hx;omega)|skip))
   (focus (refine Qf.mk ⟨(i+1,out++ [92,110]),⟨by simp only;omega,by simp only;rw [htk,g2];rfl⟩,?_,ka [] ?_ ?_⟩;(first|omega|(simp only;omega));all_goals (repeat' (first|exact rz|refine And.intro ?_ ?_|refine Exists.intro _ (And.intro rfl ?_)|refine ro ?_|refine Qu.cons ?_ ?_|(first|exact Qn.eq (catQ out [92,110]) (Qd _)|exact Qn.eq (Qz (by omega)) (Qb _))|exact rv))))
  ·by_cases h34:c.toNat=34
   ·obtain rfl:c=34:=UInt8.toNat_inj.1 h34
    (repeat' (first|with_reducible refine And.intro ?_ ?_|(with_reducible intro hc;(try simp only [zz] at hc);try exact ct)|((conv=>whnf);first|(with_reducible first|refine And.intro ?_ ?_|intro hx|apply Val.via|apply Qi.via)|exact Is.mk rfl rfl|refine sp ?_|refine vx (by (first|exact hb|exact Qa rfl rfl rfl|rfl)) ?_|refine dY ?_|fail|refine sq ?_)))
    (all_goals (first|omega|contradiction|(show (i:Int)+1≤(t.length:Int);omega)|(exfalso;have hmx:IntKind.i64.max=9223372036854775807:=rfl;rw [hmx] at hx;(try rw [B5 hb] at hx);simp [ByteArray.size_append,ByteArray.size] at hx;omega)|skip))
    (focus (refine Qf.mk ⟨(i+1,out++ [92,34]),⟨by simp only;omega,by simp only;rw [htk,g2];rfl⟩,?_,ka [] ?_ ?_⟩;(first|omega|(simp only;omega));all_goals (repeat' (first|exact rz|refine And.intro ?_ ?_|refine Exists.intro _ (And.intro rfl ?_)|refine ro ?_|refine Qu.cons ?_ ?_|(first|exact Qn.eq (catQ2 hb) (Qd _)|exact Qn.eq (Qz (by omega)) (Qb _))|exact rv))))
   ·by_cases h92:c.toNat=92
    ·obtain rfl:c=92:=UInt8.toNat_inj.1 h92
     (repeat' (first|with_reducible refine And.intro ?_ ?_|(with_reducible intro hc;(try simp only [zz] at hc);try exact ct)|((conv=>whnf);first|(with_reducible first|refine And.intro ?_ ?_|intro hx|apply Val.via|apply Qi.via)|exact Is.mk rfl rfl|refine sp ?_|refine vx (by (first|exact hb|exact Qa rfl rfl rfl|rfl)) ?_|refine dY ?_|fail|refine sq ?_)))
     (all_goals (first|omega|contradiction|(show (i:Int)+1≤(t.length:Int);omega)|(exfalso;have hmx:IntKind.i64.max=9223372036854775807:=rfl;rw [hmx] at hx;(try rw [B5 hb] at hx);simp [ByteArray.size_append,ByteArray.size] at hx;omega)|skip))
     (focus (refine Qf.mk ⟨(i+1,out++ [92,92]),⟨by simp only;omega,by simp only;rw [htk,g2];rfl⟩,?_,ka [] ?_ ?_⟩;(first|omega|(simp only;omega));all_goals (repeat' (first|exact rz|refine And.intro ?_ ?_|refine Exists.intro _ (And.intro rfl ?_)|refine ro ?_|refine Qu.cons ?_ ?_|(first|exact Qn.eq (catQ2 hb) (Qd _)|exact Qn.eq (Qz (by omega)) (Qb _))|exact rv))))
    ·have hE:Ww c= [c]:=by
      unfold Ww
      rw [if_neg h10,if_neg h34,if_neg h92]
     rw [hE] at htk
     (repeat' (first|with_reducible refine And.intro ?_ ?_|(with_reducible intro hc;(try simp only [zz] at hc);try exact ct)|((conv=>whnf);first|(with_reducible first|refine And.intro ?_ ?_|intro hx|apply Val.via|apply Qi.via)|exact Is.mk rfl rfl|refine sp ?_|refine vx (by (first|exact hb|exact Qa rfl rfl rfl|rfl)) ?_|refine dY ?_|fail|refine sq ?_)))
     (all_goals (first|omega|contradiction|(show (i:Int)+1≤(t.length:Int);omega)|(exfalso;have hmx:IntKind.i64.max=9223372036854775807:=rfl;rw [hmx] at hx;(try rw [B5 hb] at hx);simp [ByteArray.size_append,ByteArray.size] at hx;omega)|skip))
     (focus (refine Qf.mk ⟨(i+1,out++ [c]),⟨by simp only;omega,by simp only;rw [htk,g2];rfl⟩,?_,ka [] ?_ ?_⟩;(first|omega|(simp only;omega));all_goals (repeat' (first|exact rz|refine And.intro ?_ ?_|refine Exists.intro _ (And.intro rfl ?_)|refine ro ?_|refine Qu.cons ?_ ?_|(first|exact Qn.eq (catQ1 hb) (Qd _)|exact Qn.eq (Qz (by omega)) (Qb _))|exact rv))))
 ·obtain rfl:i=t.length:=by omega
  rw [List.take_length] at g2 hel
  subst g2
  simp only [List.length_cons] at hol
  (repeat' (first|with_reducible refine And.intro ?_ ?_|(with_reducible intro hc;(try simp only [zz] at hc);try exact ct)|((conv=>whnf);first|(with_reducible first|refine And.intro ?_ ?_|intro hx|apply Val.via|apply Qi.via)|exact Is.mk rfl rfl|refine sp ?_|refine vx (by (first|exact hb|exact Qa rfl rfl rfl|rfl)) ?_|refine dY ?_|fail|refine sq ?_)))
  (all_goals (first|omega|contradiction|(show (i:Int)+1≤(t.length:Int);omega)|(exfalso;have hmx:IntKind.i64.max=9223372036854775807:=rfl;rw [hmx] at hx;(try rw [B5 hb] at hx);simp [ByteArray.size_append,ByteArray.size] at hx;omega)|skip))
  all_goals exact Qf.mk (catQ (34::escL t) [34])
theorem wbAt {c:UInt8} {l:List UInt8} {u:Bool} {H:Heap} {b m:Nat} (hul:u=false→l= []) (hm:l.length+ [c].length≤500000000) (hb:H.get b=some (sbV u b m l)) (hg:H.get m=some (bufX 5 l)) (hbm:Nat.beq m b=false) :
  Qc Tryz.prog 92 [.ptr b 0,bV c] H (fun v K=>v= .sc .nilIface∧K=⟨sbO true b H.next (l++ [c])++Qw [b,m] H.objs,H.next+1⟩):=by
 refine (Qc.sbAt (p:=fun u'=>u'=true) (Qb _) (sb_args (bV c) (Xa c)) ((wbyte_call u l c hul hm).mono fun v K e=>⟨e.1,true,rfl,e.2⟩) hb hg hbm).mono ?_
 rintro v K ⟨rfl,u',rfl,rfl⟩
 exact ⟨rfl,rfl⟩
theorem Ji.ghost {P:Program} {r:Option Nat} {c:Code} {Q:Exit→VSt→Prop} {ts:List VV} {O:List (Nat×VObj)} {nx:Nat} {m:List Nat} (k:Nat) (hk:nx≤k) (h:GWP P r c Q ⟨ts,⟨(k,.opt [])::O,k+1⟩,m⟩):Ji P r c Q ⟨ts,⟨O,nx⟩,m⟩:=⟨⟨fun B M Z ρ a w rr QE g0 g1 g2 g3 =>
 h.out B M Z ρ a w rr QE g0 ((g1.bump hk).addGhost) ⟨g2.tmps,g2.marks⟩ fun e s' Z' ρ' a' w' q e1 r1 a1=>g3 e s' Z' ρ' a' w' q ⟨Nat.le_trans hk (Nat.le_trans (Nat.le_succ _) e1.nle),fun b hb=>e1.rold b (Nat.lt_succ_of_lt (Nat.lt_of_lt_of_le hb hk)),e1.zsub,e1.rsub,e1.keep,e1.size,e1.znew⟩ r1 a1⟩⟩
def txV (t:List UInt8) (at_:Nat):List VV:= [iV 4,Qe t,iV 0,iV at_]
theorem Ca.pre {K:Heap} {B w:World} {Z:Nat→Prop} {ρ ρ2:Nat→Option (Nat×Nat)} (hr:Rel B (fun _=>False) Z ρ K w) {vs us:List VV} (h:Ca K vs us): ∀ {cs:List Value},Pw (Qm w Z ρ) vs cs→Pw (Qm w (fun k=>B.heap.size≤k∧k < w.heap.size) ρ2) us cs:=by
 induction h with
 | nil=>intro cs hp;exact ⟨hp.1,fun i u c hu=>by simp at hu⟩
 | @cons v u r s hvu _ ih =>
  intro cs hp
  match cs,hp with
  | c::ct,hp =>
   have h0:=hp.2 0 v c rfl rfl
   have ht:Pw (Qm w Z ρ) r ct:=⟨by have:=hp.1;simpa using this,fun i u c hu hc=>hp.2 (i+1) u c (by simpa using hu) (by simpa using hc)⟩
   exact Pw.cons (hvu B w Z ρ ρ2 c hr h0) (ih ht)
  | [],hp=>have:=hp.1;simp at this
theorem Frx.ptr {K:Heap} {b o:Nat} {vs us:List VV} (hg:K.get b=some (.cells true vs)) (h:Ca K vs us):Frx K (.ptr b o) (.rp us o):=fun B w Z ρ ρ2 y hr hv=>by
 cases hv with
 | ptr hk =>
  obtain ⟨ds,g1,g2,g3⟩:=hr.read hg hk 0 vs.length (by omega)
  rw [List.drop_zero,List.take_of_length_le (Nat.le_refl _)] at g1
  obtain ⟨k',N',x,q1,q2,q3,q4,q5⟩:=hr.objC hg rfl
  rw [hk] at q1
  injection q1 with q1
  injection q1 with q1 q1'
  subst q1 q1'
  have hnew:=(q5 rfl).resolve_right id
  have hlt:=hr.lt hg hk
  have hp:=h.pre (ρ2:=ρ2) hr g1
  have key:=Qm.rp (w:=w) (Z:=fun k=>B.heap.size≤k∧k < w.heap.size) (ρ:=ρ2) (o:=0) (o':=o) (vs:=us) (cs:=ds) ⟨hnew,hlt⟩ hp.1 (fun i hi=>by
   have:=g3 i (ds[i]'hi) (List.getElem?_eq_getElem hi)
   rw [Xb] at this
   rw [this,List.getElem?_eq_getElem hi]) hp.2
  rw [Nat.zero_add] at key
  exact key
theorem Frx.ifc {K:Heap} {t:TypeId} {v u:VV} (h:Frx K v u):Frx K (.ifc t v) (.ifc t u):=fun B w Z ρ ρ2 y hr hv=>by
 cases hv with
 | ifc hx=>exact .ifc (h B w Z ρ ρ2 _ hr hx)
theorem Kv.ptr {H:Heap} {b o:Nat} {r:Bool} {vs us:List VV} (hg:H.get b=some (.cells r vs)) (h:ViewL H vs us):Kv H (.ptr b o) (.rp us o):=fun B w M Z ρ y hr hv=>by
 cases hv with
 | ptr hk =>
  obtain ⟨ds,g1,g2,g3⟩:=hr.read hg hk 0 vs.length (by omega)
  rw [List.drop_zero,List.take_of_length_le (Nat.le_refl _)] at g1
  have hlt:=hr.lt hg hk
  have hp:=h.pw hr g1
  have key:=Qm.rp (w:=w) (Z:=fun k=>k < w.heap.size) (ρ:=fun _=>none) (o:=0) (o':=o) (vs:=us) (cs:=ds) hlt hp.1 (fun i hi=>by
   have:=g3 i (ds[i]'hi) (List.getElem?_eq_getElem hi)
   rw [Xb] at this
   rw [this,List.getElem?_eq_getElem hi]) hp.2
  rw [Nat.zero_add] at key
  exact key
def oldL:List VV:= [Qe [92],Qe [92,92],Qe [34],Qe [92,34],Qe [10],Qe [92,110]]
def repV (d l:Int) (r o:VV):List VV:= [.sc (.int .u32 d),.sc (.int .i32 l),.sc (.int .u32 0),r,o]
def nilS:VV:= .sc (.slice none 0 0)
def rowN (a b c d:VV):List VV:=List.replicate 10 nilS++ [a]++List.replicate 23 nilS++ [b]++List.replicate 57 nilS++ [c]++List.replicate 163 nilS++ [d]
def rowB:List VV:=rowN (.sl 4 0 2 none 1) (.sl 7 0 2 none 1) (.sl 10 0 2 none 1) (.sl 0 0 3 (some 3) 1)
def rowF:List VV:=rowN (roB [92,110]) (roB [92,34]) (roB [92,92]) (.ro 3 [Qe [10],Qe [34],Qe [92]])
def heapB:Heap:=⟨[(10,.cells true ([92,92].map bV)),(9,.cells true [Qe [92]]),(8,.cells true ([92].map bV)),(7,.cells true ([92,34].map bV)),(6,.cells true [Qe [34]]),(5,.cells true ([34].map bV)),(4,.cells true ([92,110].map bV)),(3,.cells true [Qe [10]]),(2,.cells true ([10].map bV)),(1,.cells true rowB),(0,.cells true [Qe [10],Qe [34],Qe [92]])],11⟩
theorem build_run:We Tryz.prog (X6 Tryz.prog 60) 112 [.rp (repV 0 1 (.sc .nilIface) (.ro 6 oldL)) 0] ⟨[],0⟩=some (.ifc 180 (.ptr 1 0),heapB):=by kernel_rfl
theorem Ca.app {K:Heap} {a a' b b':List VV} (h:Ca K a a') (g:Ca K b b'):Ca K (a++b) (a'++b'):=by
 induction h with
 | nil=>exact g
 | cons x _ ih=>exact .cons x ih
theorem Ca.nils {K:Heap}: ∀ n,Ca K (List.replicate n nilS) (List.replicate n nilS)
 | 0=> .nil
 | n+1=> .cons (Frx.of (Xn _)) (Ca.nils n)
theorem Ca.row {K:Heap} {a b c d a' b' c' d':VV} (h1:Frx K a a') (h2:Frx K b b') (h3:Frx K c c') (h4:Frx K d d'):Ca K (rowN a b c d) (rowN a' b' c' d') :=
 ((((((((Ca.nils 10).app (.cons h1 .nil)).app (.nils 23)).app (.cons h2 .nil)).app (.nils 57)).app (.cons h3 .nil)).app (.nils 163)).app (.cons h4 .nil))
theorem exact_bVs (x:List UInt8): ∀ v∈x.map bV,Ft v:=fun v hv=>by
 obtain ⟨c,_,rfl⟩:=List.mem_map.1 hv
 exact Xn _
theorem frx_ownL {K:Heap} {b n:Nat} {l:List UInt8} (hg:K.get b=some (.cells true (l.map bV))) (hn:n=l.length):Frx K (.sl b 0 n none 1) (roB l):=by
 subst hn
 have:=Frx.sl (K:=K) (b:=b) (o:=0) (n:=l.length) (z:=1) (c:=none) hg (by simp) (exact_bVs l)
 rw [List.drop_zero,Nat.mul_one,List.take_of_length_le (by simp)] at this
 unfold roB
 exact this
theorem frx_res:Frx heapB (.ifc 180 (.ptr 1 0)) (.ifc 180 (.rp rowF 0)) :=
 .ifc (Frx.ptr (vs:=rowB) rfl (Ca.row (frx_ownL (l:= [92,110]) rfl rfl) (frx_ownL (l:= [92,34]) rfl rfl) (frx_ownL (l:= [92,92]) rfl rfl)
  (Frx.sl (K:=heapB) (b:=0) (o:=0) (n:=3) (z:=1) (c:=some 3) (vs:= [Qe [10],Qe [34],Qe [92]]) rfl (by decide) (by
   intro v hv
   simp only [List.mem_cons,List.not_mem_nil,or_false] at hv
   rcases hv with rfl|rfl|rfl <;> exact Xn _))))
theorem E5: ∀ v∈oldL,Qq v:=by
 intro v hv
 simp only [oldL,List.mem_cons,List.not_mem_nil,or_false] at hv
 rcases hv with rfl|rfl|rfl|rfl|rfl|rfl <;> exact Qd _
theorem build_call {H:Heap} {b m:Nat} (hb:H.get b=some (.cells true (repV 0 1 (.sc .nilIface) (.sl m 0 6 none 1)))) (hm:H.get m=some (.cells true oldL)):Qc Tryz.prog 112 [.ptr b 0] H (fun v K=>v= .ifc 180 (.rp rowF 0)∧K=H):=by
 refine Qc.viewed (args':= [.rp (repV 0 1 (.sc .nilIface) (.ro 6 oldL)) 0]) (.cons (Kv.ptr hb (.cons (Kv.of (Qb _)) (.cons (Kv.of (Qb _)) (.cons (Kv.of (Qb _)) (.cons (Kv.of (Qb _)) (.cons ?_ .nil)))))) .nil) (Qc.run mixed 60 build_run) (fun v K e=>by
  obtain ⟨rfl,rfl⟩:=e
  exact frx_res)
 exact Kv.sl (H:=H) (b:=m) (o:=0) (n:=6) (z:=1) (c:=none) hm (by decide) E5
theorem row_at10:rowF[10]? = some (roB [92,110]):=rfl
theorem row_at34:rowF[34]? = some (roB [92,34]):=rfl
theorem row_at92:rowF[92]? = some (roB [92,92]):=rfl
theorem row_at256:rowF[256]? = some (.ro 3 [Qe [10],Qe [34],Qe [92]]):=rfl
theorem row_other {n:Nat} (hn:n < 256) (h1:n≠10) (h2:n≠34) (h3:n≠92):rowF[n]? = some nilS:=by
 unfold rowF rowN
 simp only [List.append_assoc]
 rcases Nat.lt_or_ge n 10 with h|h
 ·rw [List.getElem?_append_left (by simpa using h),List.getElem?_replicate,if_pos h]
 rw [List.getElem?_append_right (by simpa using h),List.length_replicate,List.getElem?_append_right (by simp;omega)]
 simp only [List.length_cons,List.length_nil]
 rcases Nat.lt_or_ge n 34 with h'|h'
 ·rw [List.getElem?_append_left (by simp;omega),List.getElem?_replicate,if_pos (by omega)]
 rw [List.getElem?_append_right (by simp;omega),List.length_replicate,List.getElem?_append_right (by simp;omega)]
 simp only [List.length_cons,List.length_nil]
 rcases Nat.lt_or_ge n 92 with h''|h''
 ·rw [List.getElem?_append_left (by simp;omega),List.getElem?_replicate,if_pos (by omega)]
 rw [List.getElem?_append_right (by simp;omega),List.length_replicate,List.getElem?_append_right (by simp;omega)]
 simp only [List.length_cons,List.length_nil]
 rw [List.getElem?_append_left (by simp;omega),List.getElem?_replicate,if_pos (by omega)]
theorem Qr.cp0 {P:Program} {o:Oper} {ts:List VV} {H:Heap} {K:VV→Heap→Prop} {d s:Operand} {t e:TypeId} {m:Nat} {l:List VV} (ho:o.op= .call ⟨.builtin .copy,#[d,s],#[t,t]⟩) (hu:P.underlying t=some (.slice e)) (hz:Jv P e=some 1) (hd:Ql ts d= .ro 0 []) (hs:Xe 1 (Ql ts s) H=some (m,l)) (k:K (iV 0) H):Qr P o ts H K:=⟨⟨by
 refine (Jb.does (v:=iV 0) (H':=H) (fun c e=>by simp [ho] at e) fun B M Z ρ av w hr hav=> ?_).mono fun x K' e=>by rw [e.1,e.2];exact k
 have h1:=hd ▸ hav d
 obtain ⟨xs,p1,p2,p3,p4⟩:=Yo (P:=P) hr (hav s) hs
 have hp: ∃ p c,av d= .slice p 0 c:=by
  generalize av d=y at h1
  cases h1 with
  | ro=>exact ⟨_,_,rfl⟩
  | ro0=>exact ⟨_,_,rfl⟩
 obtain ⟨p,c,hp⟩:=hp
 refine ⟨.int .i64 0,w,ρ,?_,Ext.refl _ _ _ _,hr,.sc rfl⟩
 have h4:=p4 0 (Nat.zero_le _) w rfl
 have key:(Builtin.copy_ #[t,t] o.type #[av d,av s]).run P w= .ok (.int .i64 0) w:=by
  rw [hp]
  cases p with
  | none=>simp [Builtin.copy_,run_underlying hu,Jc hz,p3,h4,goInt]
  | some a=>simp [Builtin.copy_,run_underlying hu,Jc hz,p3,h4,goInt,storeCells]
 simp [execOp,ho,resolve,invoke,builtin,key]⟩⟩
theorem hset_same: ∀ (O:List (Nat×VObj)) (b:Nat) (x:VObj),hget O b=some x→hset O b x=O
 | [],b,x,h=>by simp [hget] at h
 | (k,o)::r,b,x,h=>by
  rw [Q8] at h
  rcases J7 k b with ⟨h1,e⟩|⟨h1,e⟩
  ·rw [if_pos e] at h
   injection h with h
   subst h
   simp only [hset,h1]
  ·rw [if_neg e] at h
   simp only [hset,h1,hset_same r b x h]
def RestV (b w n:Nat) (u:VV):Prop:=(w < n∧u= .sl b w (n - w) none 1)∨(w=n∧(u= .ro 0 []∨u= .sl b w 0 none 1))
theorem Qr.slR {P:Program} {o:Oper} {ts:List VV} {H:Heap} {K:VV→Heap→Prop} {t e:TypeId} {x lo:Operand} {b n w:Nat} {z:Int} {k:IntKind} (ho:o.op= .slice t x (some lo) none none) (hu:P.underlying t=some (.slice e)) (hz:Jv P e=some 1) (hx:Ql ts x= .sl b 0 n none 1) (hl:Ql ts lo= .sc (.int k z)) (hw:z=(w:Int)) (hwn:w≤n) (k: ∀ u,RestV b w n u→K u H):Qr P o ts H K:=by
 refine Qr.slQ (q:=0) (l:=w) (h:=n) ho hu hz hx ?_ hwn fun u hh=>k u ?_
 ·show Zq n n (some (Ql ts lo)) none none=_
  rw [hl,vb_l ⟨by omega,by omega⟩,hw,Int.toNat_natCast]
 ·rw [Nat.zero_add] at hh
  rcases hh with rfl|⟨rfl,e,_⟩
  ·by_cases h:w < n
   ·exact .inl ⟨h,rfl⟩
   ·obtain rfl:w=n:=by omega
    rw [Nat.sub_self]
    exact .inr ⟨rfl,.inr rfl⟩
  ·exact .inr ⟨e,.inl rfl⟩
theorem Qr.cpB {P:Program} {o:Oper} {ts:List VV} {H:Heap} {K:VV→Heap→Prop} {d s:Operand} {t e:TypeId} {u:VV} {b w n m:Nat} {x done:List UInt8} {rest:List VV} {l:List VV} (ho:o.op= .call ⟨.builtin .copy,#[d,s],#[t,t]⟩) (hu:P.underlying t=some (.slice e)) (hz:Jv P e=some 1) (hd:Ql ts d=u) (hr:RestV b w n u) (hs:Xe 1 (Ql ts s) H=some (m,l)) (hm:m=x.length) (hl:l=x.map bV)
  (hg:H.get b=some (.cells true (done.map bV++rest))) (hdn:done.length=w) (hn:done.length+rest.length=n) (hx:w+x.length≤n) (k:K (iV x.length) (H.set b (.cells true ((done++x).map bV++rest.drop x.length)))):Qr P o ts H K:=by
 subst hm hl hdn
 have hones:(x.map bV).all VV.one=true:=by simp [bV,VV.one]
 have full: ∀ q,q=n - done.length→Ql ts d= .sl b done.length q none 1→Qr P o ts H K:=fun q hq hd=>by
  refine Qr.via (v:=iV x.length) (H':=H.set b (.cells true ((done++x).map bV++rest.drop x.length))) ?_ k
  have e1:Nat.min x.length q=x.length:=Nat.min_eq_left (by omega)
  have e2:((x.map bV).take (x.length*1))=x.map bV:=List.take_of_length_le (by simp)
  have e3:done.length+(x.map bV).length≤(done.map bV++rest).length:=by simp;omega
  have e4:Ya (done.map bV++rest) done.length (x.map bV)=(done++x).map bV++rest.drop x.length:=by
   rw [setRun_eq _ _ _ e3]
   have hdl:(done.map bV).length=done.length:=List.length_map _
   rw [List.take_append_of_le_length (by simp),List.take_of_length_le (by simp),List.map_append,← hdl,List.drop_length_add_append,List.length_map]
  simp only [vop,ho]
  simp only [vcopy,hu,hz,hs,hd,hg,hones,e1,e2,if_pos e3,e4]
  rfl
 rcases hr with ⟨h,rfl⟩|⟨h,rfl|rfl⟩
 ·exact full _ rfl hd
 ·have h0:x= []:=List.eq_nil_of_length_eq_zero (by omega)
  subst h0
  refine Qr.cp0 ho hu hz hd hs ?_
  have e:H.set b (.cells true ((done++ []).map bV++rest.drop ([]:List UInt8).length))=H:=by
   rw [List.append_nil]
   show H.set b (.cells true (done.map bV++rest))=H
   obtain ⟨O,nx⟩:=H
   show Heap.mk (hset O b (.cells true (done.map bV++rest))) nx=_
   rw [hset_same O b _ hg]
  rw [e] at k
  exact k
 ·exact full 0 (by omega) hd
theorem Qr.slW {P:Program} {o:Oper} {ts:List VV} {H:Heap} {K:VV→Heap→Prop} {t e:TypeId} {x lo:Operand} {b n w:Nat} {z:Int} {k:IntKind} (ho:o.op= .slice t x (some lo) none none) (hu:P.underlying t=some (.slice e)) (hz:Jv P e=some 1) (hx:Ql ts x= .sl b 0 n none 1) (hl:Ql ts lo= .sc (.int k z)) (hw:z=(w:Int)) (hwn:w < n) (k:K (.sl b w (n - w) none 1) H):Qr P o ts H K :=
 Qr.slR ho hu hz hx hl hw (by omega) fun u hu=>by
  rcases hu with ⟨_,rfl⟩|⟨e,_⟩
  ·exact k
  ·omega
theorem foldl_count (c:UInt8): ∀ (l:List UInt8) (n:Int),l.foldl (fun n x=>if x==c then n+1 else n) n=n+l.count c
 | [],n=>by simp
 | a::l,n=>by
  rw [List.foldl_cons,foldl_count c l,List.count_cons]
  cases a==c <;> simp <;> omega
theorem ext_count (l:List UInt8) (b:UInt8) (H:Heap):Bn Tryz.prog 185 [Qe l,bV b] H=some (iV (l.count b)):=by
 have hf:=Tryz.func185
 have hr:C2 Tryz.f185.name=some Extern.BytealgCount.count:=by kernel_rfl
 have hb:Tryz.f185.body=none:=rfl
 have ho : Tryz.f185.origin = "" := rfl
 have hp:J5 Tryz.prog (Extern.BytealgCount.count #[.string ⟨l.toArray⟩,.int .u8 (b.toNat:Int)])=some (.int .i64 (l.count b)):=by
  rw [ct_eq]
  have e1:Extern.Bytes.bytesOf (.string ⟨l.toArray⟩)=pure ⟨l.toArray⟩:=rfl
  have e2:Extern.Bytes.asByte (.int .u8 (b.toNat:Int))=pure b:=by
   show (pure ((b.toNat:Int).toNat.toUInt8):Sem UInt8)=pure b
   congr 1
   simp
  rw [e1,e2]
  show J5 Tryz.prog (pure (goInt ((⟨l.toArray⟩:ByteArray).foldl (fun n x=>if x==b then n+1 else n) ((0:Nat):Int))))=_
  rw [Lib.foldl_data]
  show J5 Tryz.prog (pure (goInt (l.foldl (fun n x=>if x==b then n+1 else n) ((0:Nat):Int))))=_
  rw [foldl_count]
  show some (Value.int .i64 (((0:Nat):Int)+(l.count b:Int)))=_
  rw [show ((0:Nat):Int)+(l.count b:Int)=(l.count b:Int) by omega]
 simp only [Bn,hf,hb,ho,if_true,hr,bV,Qe,argB]
 rw [hp]
 rfl
theorem Cu (l:List UInt8) (c:UInt8) (H:Heap):Qc Tryz.prog 183 [Qe l,Qe [c]] H (fun x K=>x=iV (l.count c)∧K=H):=by
 refine Qc.pure (by simp [Qd]) (Qb _) ?_
 refine Qc.go Tryz.func183 rfl ?_
 repeat' (first|with_reducible refine And.intro ?_ ?_|((with_reducible intro hc);(try simp only [zA,zB,zC,zD,zE,zF,zG,zH,zI,zJ,zK,zL,zM,zN,zO,zP,zQ,zR,zS,zT,zU,zV,zW] at hc);(first|exact absurd rfl hc|exact absurd trivial hc|(exfalso;omega)|skip))|((conv=>whnf);first|with_reducible refine And.intro ?_ ?_|refine Uf ?_ ?_|refine xA (by omega) ?_|(refine xB ?_;intro kw hk1 hk2)|refine xC (by omega) ?_|refine xD ?_|refine xE (by omega) ?_|refine xF (by omega) ?_|refine xG ?_|refine xH ?_|refine xI (by omega) ?_|refine xJ (by omega) ?_|(with_reducible refine stopA ?_)|refine Exists.intro _ (And.intro (by rfl) ?_)|refine GOp.via (by rfl) ?_|(with_reducible first|refine Qs ?_|refine stopE ?_|refine stopD ?_|refine stopW ?_|refine stopG ?_|refine stopC ?_|refine stopR ?_)))
 all_goals (first|omega|skip)
 refine GExt'.via (ext_count l c _) ?_
 repeat' (first|with_reducible refine And.intro ?_ ?_|((with_reducible intro hc);(try simp only [zA,zB,zC,zD,zE,zF,zG,zH,zI,zJ,zK,zL,zM,zN,zO,zP,zQ,zR,zS,zT,zU,zV,zW] at hc);(first|exact absurd rfl hc|exact absurd trivial hc|(exfalso;omega)|skip))|((conv=>whnf);first|with_reducible refine And.intro ?_ ?_|refine Uf ?_ ?_|refine xA (by omega) ?_|(refine xB ?_;intro kw hk1 hk2)|refine xC (by omega) ?_|refine xD ?_|refine xE (by omega) ?_|refine xF (by omega) ?_|refine xG ?_|refine xH ?_|refine xI (by omega) ?_|refine xJ (by omega) ?_|(with_reducible refine stopA ?_)|refine Exists.intro _ (And.intro (by rfl) ?_)|refine GOp.via (by rfl) ?_|(with_reducible first|refine Qs ?_|refine stopE ?_|refine stopD ?_|refine stopW ?_|refine stopG ?_|refine stopC ?_|refine stopR ?_)))
 exact Qf.mk rfl
end Go.Proofs.YtnmjdjldbloefaaGreatDoor
