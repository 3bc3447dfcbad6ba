import Derived.Test.YtpbiblhkcomekaaGreatBE5
import Derived.Test.YtpbiblhkcomekaaGreatBG1
/- (*strings.Builder).Len, at any name. -/
namespace Go.Proofs.YtpbiblhkcomekaaGreat
open Go Go.RowKit
set_option linter.unusedSimpArgs false
set_option linter.unusedVariables false
set_option maxRecDepth 100000
set_option maxHeartbeats 4000000
theorem lenLaw (k:Nat) (a:Option Addr) (n c:Nat) (w:World) (h:w.cell? ⟨k,1,none⟩=some (.slice a n c)):Calls Tryz.prog 143 #[.pointer (some ⟨k,0,none⟩)] w fun e w'=>e= .returned (.int .i64 n)∧w'=w:=by
 go_enter Tryz.func143,Tryz.ntmps143
 go_wp2
 (first|go_ret|go_ret2|exact bodyPost_ret rfl rfl ⟨rfl,rfl⟩)
 exact ⟨rfl,rfl⟩
theorem blenAt {u:Bool} {l:List UInt8} {H:Heap} {b m:Nat} (hul:u=false→l= []) (hb:H.get b=some (sbV u b m l)):Qc Tryz.prog 143 [.ptr b 0] H (fun v K=>v=iV l.length∧K=H):=fun B M Z ρ w ra h1 h2=>by
 obtain ⟨y,rfl,hy⟩: ∃ y,ra= #[y]∧Qf w Z ρ (.ptr b 0) y:=by
  obtain ⟨ra⟩:=ra
  match ra,h2 with
  | [y],h2=>exact ⟨y,rfl,h2.2 0 _ _ rfl rfl⟩
  | [],h2=>have:=h2.1;simp at this
  | _::_::_,h2=>have:=h2.1;simp at this
 cases hy with
 | @ptr _ _ k N hk =>
  obtain ⟨a,c,hc⟩: ∃ a c,w.cell? ⟨k,1,none⟩=some (.slice a l.length c):=by
   cases u with
   | false =>
    obtain rfl:=hul rfl
    obtain ⟨rest,r1,r2,r3,r4,r5⟩:=h1.rawAt hb hk
    exact ⟨none,0,by rw [Js r1];rfl⟩
   | true =>
    obtain ⟨k',N',cs,t,fr,g1,g2,g3,g4,g5⟩:=h1.at_ (b:=b) (r:=true) (vs:= [.ptr b 0,bufV m l]) hb
    rw [hk] at g1;injection g1 with g1;injection g1 with g1 g1';subst g1 g1'
    obtain ⟨c,hc,hr⟩:=g4 1 _ rfl
    rw [Js g2]
    cases l with
    | nil =>
     cases hr with
     | sc=>exact ⟨none,0,by simpa using hc⟩
    | cons x r =>
     cases hr with
     | sl hk2 hn hcc hz=>exact ⟨_,_,by simpa using hc⟩
  refine (lenLaw k a l.length c w hc).mono ?_
  rintro e w' ⟨rfl,rfl⟩
  exact ⟨_,iV l.length,_,Z,ρ,rfl,⟨rfl,rfl⟩,Ext.refl _ _ _ _,h1,.sc rfl⟩
theorem hasPrefix_call (t m:List UInt8) (H:Heap) {b:Nat} {vs:List VV} {n:Nat} (hg:H.get b=some (.cells true vs)) (hv:vs=m.map bV) (hn:n=m.length) (ht:t.length≤100000):Qc Tryz.prog 104 [roB t,.sl b 0 n none 1] H (fun x K=>x=Xk (m.isPrefixOf t)∧K=H):=by
 subst hv hn
 refine Qc.viewed (args':= [roB t,roB m]) (Q:=fun v K=>v=Xk (m.isPrefixOf t)) (.cons (Cq.of (J4 t)) (.cons ?_ .nil)) ?_ (fun v K e=>by subst e;exact Frx.of (Y2 _))
 ·have:=Cq.sl (H:=H) (b:=b) (o:=0) (n:=m.length) (z:=1) (c:=none) hg (by simp) (Jf Zd m)
  rw [List.drop_zero,Nat.mul_one,List.take_of_length_le (by simp)] at this
  unfold roB
  exact this
 ·have hpre:m.length≤t.length→(t.take m.length==m)=m.isPrefixOf t:=fun h=>by
   rw [Bool.eq_iff_iff,List.isPrefixOf_iff_prefix,beq_iff_eq,List.prefix_iff_eq_take]
   exact eq_comm
  refine Qc.go Tryz.func104 rfl ?_
  repeat' (first|with_reducible refine And.intro ?_ ?_|((with_reducible intro hc);(try simp only [zA,zB,zC,zD,zE,zF,zG,zH,zI,zJ,zK,zL,zM,zN,zO,zP,zQ,zR,zS,zT,zU,zV,zW] at hc);(first|exact absurd rfl hc|exact absurd trivial hc|(exfalso;omega)|skip))|((conv=>whnf);first|with_reducible refine And.intro ?_ ?_|refine Ji ?_ ?_|refine xA (by omega) ?_|(refine xB ?_;intro kw hk1 hk2)|refine xC (by omega) ?_|refine xD ?_|refine xE (by omega) ?_|refine xF (by omega) ?_|refine xG ?_|refine xH ?_|refine xI (by omega) ?_|refine xJ (by omega) ?_|(with_reducible refine Yq ?_)|refine Exists.intro _ (And.intro (by rfl) ?_)|refine GOp.via (by rfl) ?_|(with_reducible first|refine Qw ?_|refine Yn ?_|refine Yo ?_|refine X6 ?_|refine Ym ?_|refine Yp ?_|refine Yl ?_)))
  all_goals (first|omega|skip)
  ·have e:VV.ro (((m.length:Int)).toNat - 0) (((t.map bV).drop (0*1)).take ((((m.length:Int)).toNat - 0)*1))=roB (t.take m.length):=by
    have:=Cf (l:=t) (z:=1) (i:=0) (j:=m.length) rfl (by omega) (by omega)
    rw [Int.toNat_natCast,this,Nat.sub_zero,List.drop_zero]
   refine GCall'.mk (Qc.arg21 e ((equal_call (t.take m.length) m _).mono ?_))
   rintro _ _ ⟨rfl,rfl⟩
   rw [hpre (by omega)]
   repeat' (first|with_reducible refine And.intro ?_ ?_|((with_reducible intro hc);(try simp only [zA,zB,zC,zD,zE,zF,zG,zH,zI,zJ,zK,zL,zM,zN,zO,zP,zQ,zR,zS,zT,zU,zV,zW] at hc);(first|exact absurd rfl hc|exact absurd trivial hc|(exfalso;omega)|skip))|((conv=>whnf);first|with_reducible refine And.intro ?_ ?_|refine Ji ?_ ?_|refine xA (by omega) ?_|(refine xB ?_;intro kw hk1 hk2)|refine xC (by omega) ?_|refine xD ?_|refine xE (by omega) ?_|refine xF (by omega) ?_|refine xG ?_|refine xH ?_|refine xI (by omega) ?_|refine xJ (by omega) ?_|(with_reducible refine Yq ?_)|refine Exists.intro _ (And.intro (by rfl) ?_)|refine GOp.via (by rfl) ?_|(with_reducible first|refine Qw ?_|refine Yn ?_|refine Yo ?_|refine X6 ?_|refine Ym ?_|refine Yp ?_|refine Yl ?_)))
   exact Qg.mk rfl
  ·have:m.isPrefixOf t=false:=by
    cases hh:m.isPrefixOf t
    ·rfl
    ·have:=(List.isPrefixOf_iff_prefix.1 hh).length_le
     omega
   rw [this]
   exact Qg.mk rfl
def marksL:List (List UInt8):= [[61,61],[33,61],[60,61],[62,61],[60],[62],[61],[43],[45],[42],[47],[37],[40],[41],[123],[125],[44],[59]]
def escB (c:UInt8):List UInt8:=if c.toNat=10 then [92,110] else if c.toNat=34 then [92,34] else if c.toNat=92 then [92,92] else [c]
def escL:List UInt8→List UInt8
 | []=> []
 | c::r=>escB c++escL r
def quoteB (t:List UInt8):List UInt8:=34::(escL t++ [34])
theorem escB_len (c:UInt8):1≤(escB c).length∧(escB c).length≤2:=by
 unfold escB
 split
 ·simp
 ·split
  ·simp
  ·split <;> simp
theorem escL_len: ∀ t:List UInt8,t.length≤(escL t).length∧(escL t).length≤2*t.length
 | []=>by simp [escL]
 | c::r=>by
  have h1:=escB_len c
  have h2:=escL_len r
  simp only [escL,List.length_append,List.length_cons]
  omega
theorem quote_len (t:List UInt8):(quoteB t).length=(escL t).length+2:=by simp [quoteB]
set_option maxHeartbeats 8000000
theorem wbAt {c:UInt8} {l:List UInt8} {u:Bool} {H:Heap} {b m:Nat} (hul:u=false→l= []) (hm:l.length+ [c].length≤500000000) (hb:H.get b=some (sbV u b m l)) (hg:H.get m=some (bufX 5 l)) (hbm:Nat.beq m b=false) :
  Qc Tryz.prog 145 [.ptr b 0,bV c] H (fun v K=>v= .sc .nilIface∧K=⟨sbO true b H.next (l++ [c])++Qs [b,m] H.objs,H.next+1⟩):=by
 refine (Qc.sbAt (p:=fun u'=>u'=true) (Qb _) (sb_args (bV c) (Zd c)) ((wbyte_call u l c hul hm).mono fun v K e=>⟨e.1,true,rfl,e.2⟩) hb hg hbm).mono ?_
 rintro v K ⟨rfl,u',rfl,rfl⟩
 exact ⟨rfl,rfl⟩
theorem Ju.ghost {P:Program} {r:Option Nat} {c:Code} {Q:Exit→VSt→Prop} {ts:List VV} {O:List (Nat×VObj)} {nx:Nat} {m:List Nat} (k:Nat) (hk:nx≤k) (h:GWP P r c Q ⟨ts,⟨(k,.opt [])::O,k+1⟩,m⟩):Ju P r c Q ⟨ts,⟨O,nx⟩,m⟩:=⟨⟨fun B M Z ρ a w rr QE g0 g1 g2 g3 =>
 h.out B M Z ρ a w rr QE g0 ((g1.bump hk).addGhost) ⟨g2.tmps,g2.marks⟩ fun e s' Z' ρ' a' w' q e1 r1 a1=>g3 e s' Z' ρ' a' w' q ⟨Nat.le_trans hk (Nat.le_trans (Nat.le_succ _) e1.nle),fun b hb=>e1.rold b (Nat.lt_succ_of_lt (Nat.lt_of_lt_of_le hb hk)),e1.zsub,e1.rsub,e1.keep,e1.size,e1.znew⟩ r1 a1⟩⟩
def txV (t:List UInt8) (at_:Nat):List VV:= [iV 4,Qn t,iV 0,iV at_]
end Go.Proofs.YtpbiblhkcomekaaGreat
