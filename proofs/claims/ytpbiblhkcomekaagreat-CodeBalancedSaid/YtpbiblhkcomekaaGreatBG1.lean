import Derived.Test.YtpbiblhkcomekaaGreatBE5
import Derived.Lib.UnsafeStr
import Derived.Test.YtpbiblhkcomekaaGreatChecked
import Derived.Lib.Builder
import Derived.WalkKit
import Derived.WalkSpells
import Derived.Laws.Externs
/- Blocks known exactly (a fresh builder, a builder's bytes): alloc, append, what unsafe.SliceData and unsafe.String do with them. Over any program. -/
namespace Go.Proofs.YtpbiblhkcomekaaGreat
open Go Go.RowKit
set_option linter.unusedSimpArgs false
set_option linter.unusedVariables false
def byteV (b:UInt8):Value:= .int .u8 b.toNat
section
variable {P:Program} {o:Oper} {ts:List VV} {H:Heap} {K:VV→Heap→Prop}
theorem Qr.allocR {t:TypeId} {i:TypeInfo} {z:Value} {vs:List Value} (ho:o.op= .alloc t) (hi:P.info? t=some i) (hz:i.zero=some z) (hc:z.cells=vs.toArray) (k:K (.ptr H.next 0) (H.add (.raw t vs (some vs.length)))):Qr P o ts H K:=⟨⟨by
 refine (Q3.does (v:= .ptr H.next 0) (H':=H.add (.raw t vs (some vs.length))) (fun c e=>by simp [ho] at e) ?_).mono fun x K' e=>by rw [e.1,e.2];exact k
 intro B M Z ρ av w h _
 obtain ⟨e1,r1⟩:=h.alloc (.raw t vs (some vs.length)) (.cells vs.toArray t) vs.length ⟨[],by simp,by simp,fun m e=>by injection e⟩
 refine ⟨.pointer (some ⟨w.heap.size,0,none⟩),_,_,?_,e1,r1,.ptr (Xq _ _)⟩
 have hzv:(zeroValue t).run P w= .ok z w:=by simp [zeroValue,typeInfo,hi,hz]
 have hrun:(Instr.alloc t true (.tuple #[])).run P w= .ok (.pointer (some ⟨w.heap.size,0,none⟩)) (w.alloc (.cells vs.toArray t)):=by
  simp [Instr.alloc,hzv,newVar,newRow,newObj,hc]
  rfl
 simp [execOp,ho,hrun]⟩⟩
theorem Rel.rawAt {B w:World} {M Z:Nat→Prop} {ρ:Nat→Option (Nat×Nat)} (h:Rel B M Z ρ H w) {b k N:Nat} {e:TypeId} {vs:List Value} {n:Option Nat} (hb:H.get b=some (.raw e vs n)) (hk:ρ b=some (k,N)): ∃ rest,w.heap[k]? = some (.cells (vs++rest).toArray e (0,0))∧(vs++rest).length=N∧(∀ m,n=some m→N=m)∧ ¬ Z k∧(B.heap.size≤k∨M k):=by
 obtain ⟨k',N',o,g1,g2,⟨rest,rfl,g3,g4⟩,g5,g6⟩:=h.objK hb hk
 rw [hk] at g1;injection g1 with g1;injection g1 with g1 g1';subst g1 g1'
 exact ⟨rest,g2,g3,g4,g5,g6 rfl⟩
def bufV (b:Nat):List UInt8→VV
 | []=> .sc (.slice none 0 0)
 | _::r=> .sl b 0 (r.length+1) none 1
def bufX (e:TypeId):List UInt8→VObj
 | []=> .opt []
 | c::r=> .raw e ((c::r).map byteV) none
theorem pw_bytes {w:World} {Z:Nat→Prop} {ρ:Nat→Option (Nat×Nat)}: ∀ {l:List UInt8} {xs:List Value},Pw (Qf w Z ρ) (l.map bV) xs→xs=l.map byteV
 | [],xs,h=>List.eq_nil_of_length_eq_zero (by simpa using h.1.symm)
 | b::r,[],h=>by have:=h.1;simp at this
 | b::r,x::xs,h=>by
  have h0:=h.2 0 (bV b) x rfl rfl
  have ht:Pw (Qf w Z ρ) (r.map bV) xs:=⟨by have:=h.1;simpa using this,fun i u c hu hc=>h.2 (i+1) u c (by simpa using hu) (by simpa using hc)⟩
  rw [pw_bytes ht,Jo h0]
  rfl
theorem byte_one (l:List UInt8): ∀ x∈l.map byteV,x.oneCell'=true:=fun x hx=>by
 obtain ⟨b,_,rfl⟩:=List.mem_map.1 hx
 rfl
theorem Qr.growR {s x:Operand} {sT xT e:TypeId} {i:TypeInfo} {zv:Value} {d:TypeDesc} {b:Nat} {l l2:List UInt8} (ho:o.op= .call ⟨.builtin .append,#[s,x],#[sT,xT]⟩) (hu:P.underlying sT=some (.slice e)) (hi:P.info? e=some i) (hs1:i.size=1) (hb1:i.bytes=1) (hzv:i.zero=some zv) (hzc:zv.cells.size=1) (hx:P.underlying xT=some d) (hd: ∀ k,d≠ .int k)
  (hs:Qh ts s=bufV b l) (hg:l≠ []→H.get b=some (.raw e (l.map byteV) none)) (hl:Jv 1 (Qh ts x) H=some (l2.length,l2.map bV)) (h0:l2≠ []) (hm:l.length+l2.length≤1000000000)
  (k:K (.sl H.next 0 (l.length+l2.length) none 1) ((H.del b).add (.raw e ((l++l2).map byteV) none))):Qr P o ts H K:=⟨⟨by
 refine (Q3.does (v:= .sl H.next 0 (l.length+l2.length) none 1) (H':=(H.del b).add (.raw e ((l++l2).map byteV) none)) (fun c e=>by simp [ho] at e) ?_).mono fun x K' e=>by rw [e.1,e.2];exact k
 intro B M Z ρ av w h hav
 have hsv:=hav s
 rw [hs] at hsv
 obtain ⟨xs,p1,p2,p3,p4⟩:=Yv (P:=P) h (hav x) hl
 rw [Nat.mul_one] at p2
 obtain rfl:=pw_bytes p1
 have p4': ∀ W:World,W.heap=w.heap→(Builtin.firstCells i.size l2.length (av x)).run P W= .ok (l2.map byteV).toArray W:=fun W hW=>by
  have:=p4 l2.length (Nat.le_refl _) W hW
  rw [hs1]
  rwa [List.take_of_length_le (by simp)] at this
 have hsz:Jr P e=some i.size:=by simp [Jr,hi]
 have hpos:0 < l2.length:=List.length_pos_iff.2 h0
 have hexec: ∀ s',av s=s'→execOp av o=(do pure (.value (← Builtin.append_ #[sT,xT] o.type #[s',av x]))):=fun s' hs'=>by
  simp [execOp,ho,resolve,invoke,builtin,hs']
 -- a new row
 have fresh: ∀ (n c:Nat) (base:Option Addr),av s= .slice base n c→n=l.length→(∀ W:World,W.heap=w.heap→(Builtin.firstCells i.size n (.slice base n c)).run P W= .ok (l.map byteV).toArray W)→c < n+l2.length →
   ∃ v' w' ρ',(execOp av o).run P w= .ok (.value v') w'∧Ext (own B M) H.next Z ρ w ((H.del b).add (.raw e ((l++l2).map byteV) none)).next Z ρ' w'∧Rel B M Z ρ' ((H.del b).add (.raw e ((l++l2).map byteV) none)) w'∧Qf w' Z ρ' (.sl H.next 0 (l.length+l2.length) none 1) v':=by
  intro n c base e1 en hos hc
  subst en
  obtain ⟨cap,rest,q1,q2,q3⟩:=Wr (ty:=o.type) hu hx hd hi hzv p3 p4' hos hc (by rw [hb1];omega) (by omega)
  obtain ⟨g1,g2⟩:=((h.del b).drew).alloc (.raw e ((l++l2).map byteV) none) (.cells ((l.map byteV).toArray++(l2.map byteV).toArray++rest) e) ((l++l2).map byteV++rest.toList).length ⟨rest.toList,by simp,rfl,fun m e=>by cases e⟩
  refine ⟨.slice (some ⟨w.heap.size,0,none⟩) (l.length+l2.length) cap,w.drew.alloc (.cells ((l.map byteV).toArray++(l2.map byteV).toArray++rest) e),upd ρ H.next (w.heap.size,((l++l2).map byteV++rest.toList).length),by rw [hexec _ e1];simp [q2],(Ext.drew (n:=H.next)).trans g1,g2,.sl (Xq _ _) q1 (fun q e=>by cases e) fun _=> ?_⟩
  rw [q3]
  simp [Yh,hzc]
  omega
 cases l with
 | nil =>
  have hsv:Qf w Z ρ (.sc (.slice none 0 0)) (av s):=hsv
  have e1:=Jo hsv
  exact fresh 0 0 none e1 rfl (fun W _=>by simp [Builtin.firstCells]) (by omega)
 | cons c0 r =>
  have hsv:Qf w Z ρ (.sl b 0 (r.length+1) none 1) (av s):=hsv
  have hgb:=hg (by simp)
  generalize hav2:av s=s' at hsv
  cases hsv with
  | @sl _ _ _ kk N c' _ _ hk hn hc hz =>
   have hz:=hz rfl
   obtain ⟨rest,r1,r2,_,r3,r4⟩:=h.rawAt hgb hk
   by_cases hfit:r.length+1+l2.length≤c'
   ·obtain ⟨s1,s2,s3,s4,s5,s6⟩:=Y3 kk e (0,0) (l2.map byteV) (r.length+1) w _ r1
    have hN:r.length+1+(l2.map byteV).length≤((c0::r).map byteV++rest).length:=by
     simp only [List.length_map]
     omega
    have hrun:=run_storeCells_cells (P:=P) kk (r.length+1) (l2.map byteV) 0 w (fun j hj=>by rw [Js r1];simp at hN hj ⊢;omega) (fun j hj=>by rw [Y1 r1];simp) (byte_one l2)
    rw [Nat.add_zero] at hrun
    have hsr:J3 ((c0::r).map byteV++rest) (r.length+1) (l2.map byteV)=(c0::r++l2).map byteV++rest.drop l2.length:=by
     rw [setRun_eq _ _ _ hN]
     have q1:((c0::r).map byteV++rest).take (r.length+1)=(c0::r).map byteV:=by
      rw [List.take_append_of_le_length (by simp)]
      exact List.take_of_length_le (by simp)
     have q2:((c0::r).map byteV++rest).drop (r.length+1+(l2.map byteV).length)=rest.drop l2.length:=by
      rw [List.drop_append,List.drop_of_length_le (by simp),List.nil_append]
      congr 1
      simp
     rw [q1,q2,List.map_append]
    obtain ⟨g1,g2⟩:=h.rename hgb hk rfl s4 s5 s6 s3 s2 s1 (y:= .raw e ((c0::r++l2).map byteV) none) rfl ⟨rest.drop l2.length,by
     rw [← hsr],by
     rw [← r2]
     simp only [List.length_append,List.length_map,List.length_cons,List.length_drop] at hN ⊢
     omega,fun m e=>by cases e⟩
    refine ⟨.slice (some ⟨kk,0,none⟩) (r.length+1+l2.length) c',_,_,?_,g1,g2,.sl (Xq _ _) hfit (fun q e=>by cases e) fun _=>hz⟩
    have:=Ws (ty:=o.type) hu hx hd hsz p3 p4' hfit (base:=some ⟨kk,0,none⟩) (fun a ha=>by cases ha;rw [J6,Nat.zero_add,hs1,Nat.mul_one];exact hrun) (fun e=>by cases e)
    rw [hexec _ hav2]
    simp [this]
   ·refine fresh (r.length+1) c' (some ⟨kk,0,none⟩) hav2 rfl (fun W hW=> ?_) (by omega)
    have:=run_loadCells_list (P:=P) W ⟨kk,0,none⟩ ((c0::r).map byteV) (fun j v hj=>by
     rw [Kr hW,J6,Js r1]
     have hjl:j < ((c0::r).map byteV).length:=(List.getElem?_eq_some_iff.1 hj).1
     rw [Nat.zero_add]
     simp only [List.getElem?_toArray]
     rw [List.getElem?_append_left hjl]
     exact hj)
    simpa [Builtin.firstCells,hs1] using this⟩⟩
theorem Qr.sliceD0 {s:Operand} {ats:Array TypeId} (ho:o.op= .call ⟨.builtin .unsafeSliceData,#[s],ats⟩) (hs:Qh ts s= .sc (.slice none 0 0)) (k:K (.sc (.pointer none)) H):Qr P o ts H K:=⟨⟨by
 refine Q3.exec' k (fun c e=>by simp [ho] at e) fun av w Z ρ hr=> ?_
 have hv:=hr s
 rw [hs] at hv
 have e1:=Jo hv
 refine ⟨.pointer none,?_,.sc rfl⟩
 have hrun:(Builtin.unsafeSliceData_ ats o.type #[.slice none 0 0]).run P w= .ok (.pointer none) w:=rfl
 simp [execOp,ho,resolve,invoke,builtin,e1,hrun]⟩⟩
theorem Qr.sliceD {s:Operand} {ats:Array TypeId} {b q n z:Nat} (ho:o.op= .call ⟨.builtin .unsafeSliceData,#[s],ats⟩) (hs:Qh ts s= .sl b q n none z) (h0:n≠0) (k:K (.ptr b q) H):Qr P o ts H K:=⟨⟨by
 refine Q3.exec' k (fun c e=>by simp [ho] at e) fun av w Z ρ hr=> ?_
 have hv:=hr s
 rw [hs] at hv
 generalize hav:av s=y at hv
 cases hv with
 | @sl _ _ _ kk N c' _ _ hk hn hc hz =>
  refine ⟨.pointer (some ⟨kk,q,none⟩),?_,.ptr hk⟩
  have hrun:=Lib.run_unsafeSliceData_row (P:=P) (w:=w) ats o.type ⟨kk,q,none⟩ n c' (by omega)
  simp [execOp,ho,resolve,invoke,builtin,hav,hrun]⟩⟩
theorem Qr.uStr0 {p n:Operand} {pt it:TypeId} (ho:o.op= .call ⟨.builtin .unsafeString,#[p,n],#[pt,it]⟩) (hp:Qh ts p= .sc (.pointer none)) (hn:Qh ts n=iV 0) (k:K (Qn []) H):Qr P o ts H K:=⟨⟨by
 refine Q3.exec' k (fun c e=>by simp [ho] at e) fun av w Z ρ hr=> ?_
 have hv:=hr p
 rw [hp] at hv
 have e1:=Jo hv
 have hv2:=hr n
 rw [hn] at hv2
 have e2:=Jo hv2
 refine ⟨.string .empty,?_,.sc rfl⟩
 have hrun:=Lib.run_unsafeString_none (P:=P) (w:=w) pt it o.type none
 simp [execOp,ho,resolve,invoke,builtin,e1,e2,hrun]⟩⟩
theorem Qr.uStr {p n:Operand} {pt it e:TypeId} {b:Nat} {l:List UInt8} (ho:o.op= .call ⟨.builtin .unsafeString,#[p,n],#[pt,it]⟩) (hpt:P.underlying pt=some (.pointer e)) (hce:P.cellsOf e=1) (hp:Qh ts p= .ptr b 0) (hn:Qh ts n=iV l.length) (hg:H.get b=some (.raw e (l.map byteV) none)) (h0:l≠ []) (hm:l.length≤1000000000)
  (k:K (Qn l) (H.del b)):Qr P o ts H K:=⟨⟨by
 refine (Q3.does (v:=Qn l) (H':=H.del b) (fun c e=>by simp [ho] at e) ?_).mono fun x K' e=>by rw [e.1,e.2];exact k
 intro B M Z ρ av w h hr
 have hv:=hr p
 rw [hp] at hv
 have hv2:=hr n
 rw [hn] at hv2
 have e2:=Jo hv2
 generalize hav:av p=y at hv
 cases hv with
 | @ptr _ _ kk N hk =>
  obtain ⟨rest,r1,r2,_,r3,r4⟩:=h.rawAt hg hk
  have hlen:l.length≤(l.map byteV++rest).length:=by simp
  have hsh:w.shape? kk=some (e,(l.map byteV++rest).length):=by
   unfold World.shape?
   rw [r1]
   simp
  have hrun:=Lib.run_unsafeString_row (P:=P) w pt it o.type e hpt hce kk _ hsh l h0 hlen (by omega) (fun j x hj=>by
   rw [J6,Js r1,Nat.zero_add]
   simp only [List.getElem?_toArray]
   rw [List.getElem?_append_left (by rw [List.length_map];exact (List.getElem?_eq_some_iff.1 hj).1),List.getElem?_map,hj]
   rfl)
  have hl0: ¬ l.length=0:=by simpa using h0
  have hf:w.freeze ⟨kk,0,none⟩ l.length= {w with heap:=w.heap.modify kk (fun
   | .cells c elem (lo,hi)=> .cells c elem (if lo==hi then (0,0+l.length) else (min lo 0,max hi (0+l.length)))
   | o=>o)}:=by
   simp only [World.freeze]
   rw [if_neg hl0]
   rfl
  obtain ⟨e1,rr⟩:=h.turn hg hk rfl (y:= .gone) rfl (w':=w.freeze ⟨kk,0,none⟩ l.length) (by rw [hf]) (by rw [hf]) (by rw [hf]) (by rw [hf];simp) (fun j hj=>by
   rw [hf]
   simp only [Array.getElem?_modify]
   rw [if_neg (fun e=>hj e.symm)]) (o:= .cells (l.map byteV++rest).toArray e (0,0+l.length)) (by
   rw [hf]
   simp only [Array.getElem?_modify,if_true,r1,Option.map_some]
   rfl) trivial
  refine ⟨.string ⟨l.toArray⟩,_,ρ,?_,e1,rr.weaken rfl fun c x hx=> ?_,.sc rfl⟩
  ·simp [execOp,ho,resolve,invoke,builtin,hav,e2,hrun]
  ·rw [Heap.get_del] at hx
   split at hx
   ·cases hx
   ·rename_i hne
    rw [Heap.get_set,if_neg hne]
    exact hx⟩⟩
end
end Go.Proofs.YtpbiblhkcomekaaGreat
namespace Go.Proofs.YtpbiblhkcomekaaGreat
open Go Go.RowKit
set_option linter.unusedSimpArgs false
set_option linter.unusedVariables false
set_option maxRecDepth 100000
set_option maxHeartbeats 4000000
theorem bld_info: ∃ j,(Tryz.prog).info? 216=some j∧j.size≠0:=⟨_,rfl,by decide⟩
theorem copyUsed (b:Nat) (w:World) (h0:w.cell? ⟨b,0,none⟩=some (.pointer (some ⟨b,0,none⟩))):Calls Tryz.prog 157 #[.pointer (some ⟨b,0,none⟩)] w fun e w'=>e= .returned (.tuple #[])∧w'=w:=by
 obtain ⟨j,hj,_⟩:=bld_info
 go_enter Tryz.func157,Tryz.ntmps157
 go_wp2
 rw [Lib.run_neq_ptr_same w _ Tryz.underlying214 hj]
 go_wp2
 go_end0
 exact ⟨rfl,rfl⟩
theorem copyFresh (b:Nat) (w:World) (h0:w.cell? ⟨b,0,none⟩=some (.pointer none)) (hsh:w.shape? b=some (216,2)) (hfz:w.frozen? ⟨b,0,none⟩=false) :
  Calls Tryz.prog 157 #[.pointer (some ⟨b,0,none⟩)] w fun e w'=>e= .returned (.tuple #[])∧w'=w.setCell ⟨b,0,none⟩ (.pointer (some ⟨b,0,none⟩)):=by
 obtain ⟨j,hj,hjs⟩:=bld_info
 go_enter Tryz.func157,Tryz.ntmps157
 go_wp2
 rw [Lib.run_to_unsafe w ⟨b,0,none⟩ Tryz.underlying214 Tryz.underlying230 hj hjs hsh (Nat.zero_lt_succ 1)]
 simp only [Result.andThen]
 rw [Oper.upon_value]
 go_wp2
 rw [run_callFunc_extern Tryz.func160 (by kernel_rfl) (by kernel_rfl) (by kernel_rfl) (e:=Extern.AbiNoEscape.same) (by kernel_rfl)]
 rw [Lib.run_noEscape]
 simp only [Result.andThen]
 rw [Oper.upon_value]
 go_wp2
 rw [Lib.run_from_unsafe w ⟨b,0,none⟩ Tryz.underlying230 Tryz.underlying214 hj hsh (by kernel_rfl)]
 simp only [Result.andThen]
 rw [Oper.upon_value]
 go_wp2
 go_end0
 exact ⟨rfl,rfl⟩
def sbV (u:Bool) (b m:Nat) (l:List UInt8):VObj:=match u with
 | true=> .cells true [.ptr b 0,bufV m l]
 | false=> .raw 216 [.pointer none,.slice none 0 0] (some 2)
theorem copyU_call (x:VV) (O:List (Nat×VObj)) (n:Nat):Qc Tryz.prog 157 [.ptr 0 0] ⟨(0,.cells true [.ptr 0 0,x])::O,n⟩ (fun v K=>v= .tp []∧K=⟨(0,.cells true [.ptr 0 0,x])::O,n⟩):=fun B M Z ρ w ra h1 h2=>by
 obtain ⟨y,rfl,hy⟩: ∃ y,ra= #[y]∧Qf w Z ρ (.ptr 0 0) y:=by
  obtain ⟨ra⟩:=ra
  match ra,h2 with
  | [y],h2=>exact ⟨y,rfl,h2.2 0 _ _ rfl rfl⟩
  | [],h2=>have:=h2.1;simp at this
  | _::_::_,h2=>have:=h2.1;simp at this
 cases hy with
 | @ptr _ _ k N hk =>
  obtain ⟨k',N',cs,t,fr,g1,g2,g3,g4,g5⟩:=h1.at_ (b:=0) (r:=true) (vs:= [.ptr 0 0,x]) rfl
  rw [hk] at g1;injection g1 with g1;injection g1 with g1 g1';subst g1 g1'
  obtain ⟨c,hc,hr⟩:=g4 0 _ rfl
  have hc0:w.cell? ⟨k,0,none⟩=some (.pointer (some ⟨k,0,none⟩)):=by
   rw [Js g2]
   cases hr with
   | ptr hk2 =>
    rw [hk] at hk2
    injection hk2 with hk2
    injection hk2 with hk2 _
    subst hk2
    simpa using hc
  refine (copyUsed k w hc0).mono ?_
  rintro e w' ⟨rfl,rfl⟩
  exact ⟨_,.tp [],_,Z,ρ,rfl,⟨rfl,rfl⟩,Ext.refl _ _ _ _,h1,Qf.undef⟩
theorem copyF_call (O:List (Nat×VObj)) (n:Nat):Qc Tryz.prog 157 [.ptr 0 0] ⟨(0,.raw 216 [.pointer none,.slice none 0 0] (some 2))::O,n⟩ (fun v K=>v= .tp []∧K=⟨(0,.cells true [.ptr 0 0,.sc (.slice none 0 0)])::O,n⟩):=fun B M Z ρ w ra h1 h2=>by
 obtain ⟨y,rfl,hy⟩: ∃ y,ra= #[y]∧Qf w Z ρ (.ptr 0 0) y:=by
  obtain ⟨ra⟩:=ra
  match ra,h2 with
  | [y],h2=>exact ⟨y,rfl,h2.2 0 _ _ rfl rfl⟩
  | [],h2=>have:=h2.1;simp at this
  | _::_::_,h2=>have:=h2.1;simp at this
 cases hy with
 | @ptr _ _ k N hk =>
  have hg:(⟨(0,.raw 216 [.pointer none,.slice none 0 0] (some 2))::O,n⟩:Heap).get 0=some (.raw 216 [.pointer none,.slice none 0 0] (some 2)):=rfl
  obtain ⟨rest,r1,r2,r3,r4,r5⟩:=h1.rawAt hg hk
  obtain rfl:N=2:=r3 2 rfl
  obtain rfl:rest= []:=List.eq_nil_of_length_eq_zero (by simpa using r2)
  have hc0:w.cell? ⟨k,0,none⟩=some (.pointer none):=by
   rw [Js r1];rfl
  have hsh:w.shape? k=some (216,2):=by
   unfold World.shape?
   rw [r1]
   rfl
  have hfz:w.frozen? ⟨k,0,none⟩=false:=by rw [Y1 r1];rfl
  refine (copyFresh k w hc0 hsh hfz).mono ?_
  rintro e w' ⟨rfl,rfl⟩
  obtain ⟨s1,s2,s3,s4,s5,s6⟩:=Y3 k 216 (0,0) [.pointer (some ⟨k,0,none⟩)] 0 w _ r1
  have hw:w.setCells k 0 [.pointer (some ⟨k,0,none⟩)]=w.setCell ⟨k,0,none⟩ (.pointer (some ⟨k,0,none⟩)):=rfl
  rw [hw] at s1 s2 s3 s4 s5 s6
  obtain ⟨e1,rr⟩:=h1.turn hg hk rfl (y:= .cells true [.ptr 0 0,.sc (.slice none 0 0)]) rfl s4 s5 s6 s3 s2 s1 ⟨_,_,_,rfl,rfl,(Pw.cons (.ptr hk) (Pw.cons (.sc rfl) Pw.nil)).pre,.inl rfl⟩
  exact ⟨_,.tp [],_,Z,ρ,rfl,⟨rfl,rfl⟩,e1,rr,Qf.undef⟩
end Go.Proofs.YtpbiblhkcomekaaGreat
namespace Go.Proofs.YtpbiblhkcomekaaGreat
open Go Go.RowKit
set_option linter.unusedSimpArgs false
set_option linter.unusedVariables false
set_option maxRecDepth 100000
set_option maxHeartbeats 4000000
theorem u8_info: ∃ i zv,(Tryz.prog).info? 5=some i∧i.size=1∧i.bytes=1∧i.zero=some zv∧zv.cells.size=1:=⟨_,_,rfl,rfl,rfl,rfl,rfl⟩
def sbO (u:Bool) (b m:Nat) (l:List UInt8):List (Nat×VObj):= [(b,sbV u b m l),(m,bufX 5 l)]
theorem Qc.sb {P:Program} {f:FuncId} {args:List VV} {O:List (Nat×VObj)} {l:List UInt8} {u:VV} (hu:Qd u) (h:Qc P f args ⟨O,2⟩ (fun v K=>v=u∧ ∃ m,K.get 0=some (.cells true [.ptr 0 0,bufV m l])∧(l≠ []→K.get m=some (.raw 5 (l.map byteV) none))∧(m=0→l= []))) :
  Qc P f args ⟨O,2⟩ (fun v K=>v=u∧K=⟨sbO true 0 2 l,3⟩):=by
 refine Qc.outR h ?_
 rintro v K ⟨rfl,m,g0,g1,g2⟩
 cases l with
 | nil=>exact ⟨v,sbO true 0 2 [],3,[],rfl,.of hu,⟨⟨_,g0,.cells (.cons (.ptrL (by show 0 < 2;decide)) (.cons (.of (Qb _)) .nil))⟩,rfl,trivial⟩,rfl,rfl⟩
 | cons c r =>
  refine ⟨v,sbO true 0 2 (c::r),3,[(m,2)],?_,.of hu,?_,rfl,rfl⟩
  ·have hm:m≠0:=fun e=>by cases g2 e
   have hb:Nat.beq 0 m=false:=by
    cases h:Nat.beq 0 m
    ·rfl
    ·exact absurd (Nat.eq_of_beq_eq_true h).symm hm
   show (wfR 2 3 [(m,2)]&&nodupB [0,m]&&Nat.ble 2 3&&_)=true
   simp only [nodupB,List.all_cons,List.all_nil,hb]
   rfl
  ·exact ⟨⟨_,g0,.cells (.cons (.ptrL (by show 0 < 2;decide)) (.cons (.sl (List.Mem.head _)) .nil))⟩,⟨_,g1 (by simp),.raw⟩,trivial⟩
theorem bufV_app (m:Nat) (l:List UInt8) (c:UInt8) (x:List UInt8):bufV m (l++c::x)= .sl m 0 (l.length+(c::x).length) none 1:=by
 cases l with
 | nil =>
  show VV.sl m 0 (x.length+1) none 1=_
  rw [List.length_cons,List.length_nil,Nat.zero_add]
 | cons c0 r0 =>
  show VV.sl m 0 ((r0++c::x).length+1) none 1=_
  rw [List.length_append,List.length_cons,List.length_cons]
  congr 1
  omega
theorem wbyte_call (u:Bool) (l:List UInt8) (c:UInt8) (hul:u=false→l= []) (hm:l.length+ [c].length≤500000000):Qc Tryz.prog 145 [.ptr 0 0,bV c] ⟨sbO u 0 1 l,2⟩ (fun v K=>v= .sc .nilIface∧K=⟨sbO true 0 2 (l++ [c]),3⟩):=by
 refine Qc.sb (Qb _) ?_
 obtain ⟨i,zv,hi,hs1,hb1,hzv,hzc⟩:=u8_info
 cases u with
 | false =>
  obtain rfl:=hul rfl
  change Qc Tryz.prog _ _ ⟨[(0,.raw 216 [.pointer none,.slice none 0 0] (some 2)),(1,.opt [])],2⟩ _
  refine Qc.go Tryz.func145 rfl ?_
  repeat' (first|with_reducible refine And.intro ?_ ?_|(with_reducible intro hc;(try simp only [zz] at hc);try exact ct)|((conv=>whnf);first|(with_reducible first|refine And.intro ?_ ?_|intro hx|apply Val.via|apply Qk.via)|exact Is.mk rfl rfl|(refine Qw (Qr.growR (b:=1) (l:= []) (l2:= [c]) (e:=5) (d:= .slice 5) rfl Tryz.underlying22 hi hs1 hb1 hzv hzc Tryz.underlying22 (by intro k h;cases h) rfl (by intro h;first|rfl|exact absurd rfl h) rfl (by simp) (by simp only [List.length_cons,List.length_nil] at hm ⊢;omega) ?_))|refine sp ?_|refine vx (by (first|exact Qa rfl rfl rfl|rfl)) ?_|refine dY ?_|refine cl (copyF_call _ _) ?_|refine sq ?_))
  (all_goals try exact om)
  exact Qg.mk ⟨rfl,3,Eq.trans (b:=some (VObj.cells true [.ptr 0 0,.sl 3 0 (([]:List UInt8).length+ [c].length) none 1])) rfl (by rw [bufV_app]),fun _=>rfl,by simp⟩
 | true =>
  cases l with
  | nil =>
   change Qc Tryz.prog _ _ ⟨[(0,.cells true [.ptr 0 0,.sc (.slice none 0 0)]),(1,.opt [])],2⟩ _
   refine Qc.go Tryz.func145 rfl ?_
   repeat' (first|with_reducible refine And.intro ?_ ?_|(with_reducible intro hc;(try simp only [zz] at hc);try exact ct)|((conv=>whnf);first|(with_reducible first|refine And.intro ?_ ?_|intro hx|apply Val.via|apply Qk.via)|exact Is.mk rfl rfl|(refine Qw (Qr.growR (b:=1) (l:= []) (l2:= [c]) (e:=5) (d:= .slice 5) rfl Tryz.underlying22 hi hs1 hb1 hzv hzc Tryz.underlying22 (by intro k h;cases h) rfl (by intro h;first|rfl|exact absurd rfl h) rfl (by simp) (by simp only [List.length_cons,List.length_nil] at hm ⊢;omega) ?_))|refine sp ?_|refine vx (by (first|exact Qa rfl rfl rfl|rfl)) ?_|refine dY ?_|refine cl (copyU_call _ _ _) ?_|refine sq ?_))
   (all_goals try exact om)
   exact Qg.mk ⟨rfl,3,Eq.trans (b:=some (VObj.cells true [.ptr 0 0,.sl 3 0 (([]:List UInt8).length+ [c].length) none 1])) rfl (by rw [bufV_app]),fun _=>rfl,by simp⟩
  | cons c0 r0 =>
   change Qc Tryz.prog _ _ ⟨[(0,.cells true [.ptr 0 0,.sl 1 0 (r0.length+1) none 1]),(1,.raw 5 ((c0::r0).map byteV) none)],2⟩ _
   refine Qc.go Tryz.func145 rfl ?_
   repeat' (first|with_reducible refine And.intro ?_ ?_|(with_reducible intro hc;(try simp only [zz] at hc);try exact ct)|((conv=>whnf);first|(with_reducible first|refine And.intro ?_ ?_|intro hx|apply Val.via|apply Qk.via)|exact Is.mk rfl rfl|(refine Qw (Qr.growR (b:=1) (l:=(c0::r0)) (l2:= [c]) (e:=5) (d:= .slice 5) rfl Tryz.underlying22 hi hs1 hb1 hzv hzc Tryz.underlying22 (by intro k h;cases h) rfl (by intro h;first|rfl|exact absurd rfl h) rfl (by simp) (by simp only [List.length_cons,List.length_nil] at hm ⊢;omega) ?_))|refine sp ?_|refine vx (by (first|exact Qa rfl rfl rfl|rfl)) ?_|refine dY ?_|refine cl (copyU_call _ _ _) ?_|refine sq ?_))
   (all_goals try exact om)
   exact Qg.mk ⟨rfl,3,Eq.trans (b:=some (VObj.cells true [.ptr 0 0,.sl 3 0 ((c0::r0).length+ [c].length) none 1])) rfl (by rw [bufV_app]),fun _=>rfl,by simp⟩
end Go.Proofs.YtpbiblhkcomekaaGreat
namespace Go.Proofs.YtpbiblhkcomekaaGreat
open Go Go.RowKit
set_option linter.unusedSimpArgs false
set_option linter.unusedVariables false
set_option maxRecDepth 100000
set_option maxHeartbeats 4000000
theorem GWP.drawG1 {P:Program} {r:Option Nat} {id:Nat} {ops:Array Oper} {Q:Exit→VSt→Prop} {s:VSt} (hm:P.follows .mixedOrders=true) (al m n:Nat) (va:VV) (f:Heap→Heap) (hb:(backN 0 ops.toList&&nodupN (dstsOf ops.toList)&&fitN n ops&&Ny ops.toList al m&&Nat.blt al m)=true) (hlen:s.tmps.length=n)
  (h:match s with|⟨ts0,H,md⟩=>forceNL (Ys ops.toList m [m]) fun an=>Z6 P ops ts0 al m an va H (f H) (fun V H'=>tAllE ops.toList V ts0 fun ts=>Q .normal ⟨ts,H',md⟩) 0 ops.toList []):GWP P r (.region id ops true) Q s:=by
 obtain ⟨ts0,H,md⟩:=s
 exact GWP.drawE hm al m n va (f H) hb hlen h
theorem Qc.unraw {P:Program} {f:FuncId} {args:List VV} {b n:Nat} {O:List (Nat×VObj)} {t:TypeId} {Q:VV→Heap→Prop} (h:Qc P f args ⟨(b,.cells true [.sc (.pointer none),.sc (.slice none 0 0)])::O,n⟩ Q):Qc P f args ⟨(b,.raw t [.pointer none,.slice none 0 0] (some 2))::O,n⟩ Q:=fun B M Z ρ w ra h1 h2=>by
 have hg:(⟨(b,.raw t [.pointer none,.slice none 0 0] (some 2))::O,n⟩:Heap).get b=some (.raw t [.pointer none,.slice none 0 0] (some 2)):=by simp [Heap.get,Qy]
 obtain ⟨k,N,o,g1,g2,⟨rest,rfl,g3,g4⟩,_⟩:=h1.objC hg rfl
 have:=(h1.turn hg g1 rfl rfl rfl rfl rfl rfl (fun _ _=>rfl) g2 (y:= .cells true [.sc (.pointer none),.sc (.slice none 0 0)]) ⟨_,_,_,rfl,by simpa using g3,by simpa using pre_app (rest:=rest) (Pw.cons (.sc (v:= .pointer none) rfl) (Pw.cons (.sc (v:= .slice none 0 0) rfl) Pw.nil)),.inl rfl⟩).2
 refine h B M Z ρ w ra (this.weaken rfl fun c x hx=> ?_) h2
 rw [Heap.get_set]
 simp only [Heap.get,Qy] at hx ⊢
 split at hx
 ·rename_i e
  subst e
  simp [hx]
 ·rename_i e
  rw [if_neg e,if_neg e]
  exact hx
theorem bstr_call (u:Bool) (l:List UInt8) (hul:u=false→l= []) (hm:l.length≤500000000):Qc Tryz.prog 144 [.ptr 0 0] ⟨sbO u 0 1 l,2⟩ (fun v K=>v=Qn l∧K=⟨[],2⟩):=by
 refine Qc.post (Q:=fun v K=>v=Qn l∧K.next≤2) ?_ ?_
 ·cases l with
  | nil =>
   cases u with
   | false =>
    refine Qc.unraw ?_
    change Qc Tryz.prog _ _ ⟨[(0,.cells true [.sc (.pointer none),.sc (.slice none 0 0)]),(1,.opt [])],2⟩ _
    refine Qc.go Tryz.func144 rfl ?_
    repeat' (first|with_reducible refine And.intro ?_ ?_|(with_reducible intro hc;(try simp only [zz] at hc);try exact ct)|((conv=>whnf);first|(with_reducible first|refine And.intro ?_ ?_|intro hx|apply Val.via|apply Qk.via)|exact Is.mk rfl rfl|refine sp ?_|refine vx (by (first|exact Qa rfl rfl rfl|rfl)) ?_|fail|refine sq ?_))
    (all_goals try exact om)
    refine Ju.mk (GWP.drawG1 mixed 10 11 14 (Qn []) (fun H=>H) (by kernel_rfl) (by rfl) ?_)
    repeat' (first|with_reducible refine And.intro ?_ ?_|(with_reducible intro hc;(try simp only [zz] at hc);try exact ct)|((conv=>whnf);first|(with_reducible first|refine And.intro ?_ ?_|intro hx|apply Val.via|apply Qk.via)|exact Is.mk rfl rfl|refine sp ?_|refine vx (by (first|exact Qa rfl rfl rfl|rfl)) ?_|refine dY ?_|(first|(refine Qw (Qr.sliceD0 rfl rfl ?_))|(refine Qw (Qr.uStr0 rfl rfl rfl ?_)))|refine sq ?_))
    (all_goals try exact om)
    exact Qg.mk ⟨rfl,Nat.le_refl _⟩
   | true =>
    change Qc Tryz.prog _ _ ⟨[(0,.cells true [.ptr 0 0,.sc (.slice none 0 0)]),(1,.opt [])],2⟩ _
    refine Qc.go Tryz.func144 rfl ?_
    repeat' (first|with_reducible refine And.intro ?_ ?_|(with_reducible intro hc;(try simp only [zz] at hc);try exact ct)|((conv=>whnf);first|(with_reducible first|refine And.intro ?_ ?_|intro hx|apply Val.via|apply Qk.via)|exact Is.mk rfl rfl|refine sp ?_|refine vx (by (first|exact Qa rfl rfl rfl|rfl)) ?_|fail|refine sq ?_))
    (all_goals try exact om)
    refine Ju.mk (GWP.drawG1 mixed 10 11 14 (Qn []) (fun H=>H) (by kernel_rfl) (by rfl) ?_)
    repeat' (first|with_reducible refine And.intro ?_ ?_|(with_reducible intro hc;(try simp only [zz] at hc);try exact ct)|((conv=>whnf);first|(with_reducible first|refine And.intro ?_ ?_|intro hx|apply Val.via|apply Qk.via)|exact Is.mk rfl rfl|refine sp ?_|refine vx (by (first|exact Qa rfl rfl rfl|rfl)) ?_|refine dY ?_|(first|(refine Qw (Qr.sliceD0 rfl rfl ?_))|(refine Qw (Qr.uStr0 rfl rfl rfl ?_)))|refine sq ?_))
    (all_goals try exact om)
    exact Qg.mk ⟨rfl,Nat.le_refl _⟩
  | cons c r =>
   cases u with
   | false=>exact absurd (hul rfl) (by simp)
   | true =>
    change Qc Tryz.prog _ _ ⟨[(0,.cells true [.ptr 0 0,.sl 1 0 (r.length+1) none 1]),(1,.raw 5 ((c::r).map byteV) none)],2⟩ _
    refine Qc.go Tryz.func144 rfl ?_
    repeat' (first|with_reducible refine And.intro ?_ ?_|(with_reducible intro hc;(try simp only [zz] at hc);try exact ct)|((conv=>whnf);first|(with_reducible first|refine And.intro ?_ ?_|intro hx|apply Val.via|apply Qk.via)|exact Is.mk rfl rfl|refine sp ?_|refine vx (by (first|exact Qa rfl rfl rfl|rfl)) ?_|fail|refine sq ?_))
    (all_goals try exact om)
    refine Ju.mk (GWP.drawG1 mixed 10 11 14 (Qn (c::r)) (fun H=>⟨[(0,.cells true [.ptr 0 0,.sl 1 0 (r.length+1) none 1])],2⟩) (by kernel_rfl) (by rfl) ?_)
    repeat' (first|with_reducible refine And.intro ?_ ?_|(with_reducible intro hc;(try simp only [zz] at hc);try exact ct)|((conv=>whnf);first|(with_reducible first|refine And.intro ?_ ?_|intro hx|apply Val.via|apply Qk.via)|exact Is.mk rfl rfl|refine sp ?_|refine vx (by (first|exact Qa rfl rfl rfl|rfl)) ?_|refine dY ?_|(first|(refine Qw (Qr.sliceD rfl rfl (by simp) ?_))|(refine Qw (Qr.uStr (l:=(c::r)) (e:=5) rfl rfl rfl rfl rfl rfl (by simp) (by simp only [List.length_cons] at hm ⊢;omega) ?_)))|refine sq ?_))
    (all_goals try exact om)
    exact Qg.mk ⟨rfl,Nat.le_refl _⟩
 ·rintro v K ⟨rfl,h⟩
  exact ⟨Qn l,⟨[],2⟩,⟨rfl,rfl⟩,fun _ _ _ _ h=>h,h,fun b x hx=>by simp [Heap.get,hget] at hx⟩
end Go.Proofs.YtpbiblhkcomekaaGreat
namespace Go.Proofs.YtpbiblhkcomekaaGreat
open Go Go.RowKit
set_option linter.unusedSimpArgs false
set_option linter.unusedVariables false
theorem Dg {a b:Nat} (h:a≠b):Nat.beq a b=false:=by
 cases e:Nat.beq a b
 ·rfl
 ·exact absurd (Nat.eq_of_beq_eq_true e) h
theorem hget_memB {b:Nat}: ∀ (l:List (Nat×VObj)),b∈l.map (·.1)→ ∃ x,Go.Proofs.YtpbiblhkcomekaaGreat.hget l b=some x:=by
 intro l
 induction l with
 | nil=>intro h;simp at h
 | cons p r ih =>
  obtain ⟨k,y⟩:=p
  intro h
  rw [Qy]
  by_cases e:k=b
  ·rw [if_pos e];exact ⟨y,rfl⟩
  ·rw [if_neg e]
   rcases List.mem_cons.1 h with h|h
   ·exact absurd h.symm e
   ·exact ih h
theorem restO_none (D:List Nat) (b:Nat) (hb:Jl b D=true) (O:List (Nat×VObj)):Jl b ((Qs D O).map (·.1))=false:=by
 cases hc:Jl b ((Qs D O).map (·.1)) with
 | false=>rfl
 | true =>
  obtain ⟨x,hx⟩:=hget_memB _ (Qp.1 hc)
  rw [Kp,hb] at hx
  cases hx
theorem restO_live {D:List Nat} {H:Heap} {n:Nat} (hl: ∀ b x,H.get b=some x→b < n):Jl n ((Qs D H.objs).map (·.1))=false:=by
 cases hc:Jl n ((Qs D H.objs).map (·.1)) with
 | false=>rfl
 | true =>
  obtain ⟨x,hx⟩:=hget_memB _ (Qp.1 hc)
  rw [Kp] at hx
  split at hx
  ·cases hx
  ·have:=hl _ _ hx
   omega
theorem Wi {D:List Nat} {H:Heap} {b:Nat} (hb:Jl b D=true):(⟨Yr D H.objs,H.next⟩:Heap).get b=H.get b:=by
 show hget (Yr D H.objs) b=_
 rw [X4,hb]
 rfl
theorem We {R:List (Nat×Nat)} {T:Nat} {e:TypeId} (l:List UInt8):Jx R T (bufX e l) (bufX e l):=by
 cases l with
 | nil=>exact .opt .nil
 | cons c r=>exact .raw
theorem U4 {R:List (Nat×Nat)} {T m m':Nat} {l:List UInt8} (hm:(m,m')∈R):Qi R T (bufV m l) (bufV m' l):=by
 cases l with
 | nil=>exact .of (Qb _)
 | cons c r=>exact .sl hm
theorem Wa {R:List (Nat×Nat)} {T:Nat} {u:Bool} {b b' m m':Nat} {l:List UInt8} (hb:Qi R T (.ptr b 0) (.ptr b' 0)) (hm:(m,m')∈R):Jx R T (sbV u b m l) (sbV u b' m' l):=by
 cases u with
 | false=>exact .raw
 | true=>exact .cells (.cons hb (.cons (U4 hm) .nil))
theorem sbV_rw (u:Bool) (b m:Nat) (l:List UInt8):(sbV u b m l).rw=true:=by cases u <;> rfl
theorem bufX_rw (e:TypeId) (l:List UInt8):(bufX e l).rw=true:=by cases l <;> rfl
theorem sb_back {R:List (Nat×Nat)} {b nx:Nat} {u:Bool} {l':List UInt8} {v:VV} (hv:Qd v) (hR:R= [(b,0)]∨ ∃ m,m≠b∧m < nx∧R= [(b,0),(m,1)]) (hb:b < nx):Back R 2 nx ⟨sbO u 0 2 l',3⟩ v v (sbO u b nx l'):=by
 have e1:Nat.beq b nx=false:=Dg (by omega)
 have e2:Nat.blt nx (nx+1)=true:=Qz.2 (by omega)
 have e3:Nat.blt b (nx+1)=true:=Qz.2 (by omega)
 have e4:Nat.beq nx nx=true:=Nat.beq_refl nx
 have e5:Nat.beq b b=true:=Nat.beq_refl b
 have e6:Nat.beq nx b=false:=Dg (by omega)
 have e7: ∀ n,Nat.ble 0 n=true:=fun n=>Nat.ble_eq_true_of_le (Nat.zero_le n)
 have r1:=sbV_rw u b nx l'
 have r2:=bufX_rw 5 l'
 rcases hR with rfl|⟨m,hmb,hmn,rfl⟩
 ·have e0:Jm [(b,0)] 2 nx (3 - 2)= [(2,nx),(0,b)]:=rfl
  have s1:Xb [(2,nx),(0,b)] 0 b=some 0:=by simp only [Q7,srcN,e5,e6]
  have s2:Xb [(2,nx),(0,b)] 0 nx=some 2:=by simp only [Q7,srcN,e4]
  refine ⟨?_,.of hv,?_⟩
  ·show (wfR 0 (nx+1) (Jm [(b,0)] 2 nx (3 - 2))&&nodupB (Zy (Jm [(b,0)] 2 nx (3 - 2)) 0 (sbO u b nx l'))&&(sbO u b nx l').all (fun p=>(srcN (Jm [(b,0)] 2 nx (3 - 2)) p.1).isSome)&&(sbO u b nx l').all (fun p=>p.2.rw))=true
   rw [e0]
   simp only [wfR,sbO,Zy,s1,s2,srcN,e1,e2,e3,e4,e5,e6,e7,nodupB,List.all_cons,List.all_nil,r1,r2]
   rfl
  ·show W1 (Jm [(b,0)] 2 nx (3 - 2)) 0 ⟨sbO u 0 2 l',3⟩ (sbO u b nx l')
   rw [e0]
   refine ⟨?_,?_,trivial⟩
   ·rw [s1]
    exact ⟨_,rfl,Wa (.ptr (by simp)) (by simp)⟩
   ·rw [s2]
    exact ⟨_,rfl,We l'⟩
 ·have e0:Jm [(b,0),(m,1)] 2 nx (3 - 2)= [(2,nx),(0,b),(1,m)]:=rfl
  have f1:Nat.beq m nx=false:=Dg (by omega)
  have f2:Nat.blt m (nx+1)=true:=Qz.2 (by omega)
  have f3:Nat.beq m b=false:=Dg hmb
  have f4:Nat.beq m m=true:=Nat.beq_refl m
  have s1:Xb [(2,nx),(0,b),(1,m)] 0 b=some 0:=by simp only [Q7,srcN,e5,e6]
  have s2:Xb [(2,nx),(0,b),(1,m)] 0 nx=some 2:=by simp only [Q7,srcN,e4]
  refine ⟨?_,.of hv,?_⟩
  ·show (wfR 0 (nx+1) (Jm [(b,0),(m,1)] 2 nx (3 - 2))&&nodupB (Zy (Jm [(b,0),(m,1)] 2 nx (3 - 2)) 0 (sbO u b nx l'))&&(sbO u b nx l').all (fun p=>(srcN (Jm [(b,0),(m,1)] 2 nx (3 - 2)) p.1).isSome)&&(sbO u b nx l').all (fun p=>p.2.rw))=true
   rw [e0]
   simp only [wfR,sbO,Zy,s1,s2,srcN,e1,e2,e3,e4,e5,e6,e7,f1,f2,f3,f4,nodupB,List.all_cons,List.all_nil,r1,r2]
   rfl
  ·show W1 (Jm [(b,0),(m,1)] 2 nx (3 - 2)) 0 ⟨sbO u 0 2 l',3⟩ (sbO u b nx l')
   rw [e0]
   refine ⟨?_,?_,trivial⟩
   ·rw [s1]
    exact ⟨_,rfl,Wa (.ptr (by simp)) (by simp)⟩
   ·rw [s2]
    exact ⟨_,rfl,We l'⟩
theorem sb_all {b nx:Nat} {u:Bool} {l':List UInt8} {L:List Nat} (hb:Jl b L=false) (hn:Jl nx L=false):((sbO u b nx l').all fun p=> !(Jl p.1 L))=true:=by
 simp only [sbO,List.all_cons,List.all_nil,hb,hn];rfl
theorem Qc.sbAt {P:Program} {f:FuncId} {args args':List VV} {u:Bool} {p:Bool→Prop} {l l':List UInt8} {r:VV} {H:Heap} {b m:Nat} (hr:Qd r) (ha: ∀ R,(b,0)∈R→Qe R 0 args args') (h:Qc P f args' ⟨sbO u 0 1 l,2⟩ (fun v K=>v=r∧ ∃ u',p u'∧K=⟨sbO u' 0 2 l',3⟩))
  (hb:H.get b=some (sbV u b m l)) (hm:H.get m=some (bufX 5 l)) (hbm:Nat.beq m b=false):Qc P f args H (fun v K=>v=r∧ ∃ u',p u'∧K=⟨sbO u' b H.next l'++Qs [b,m] H.objs,H.next+1⟩):=by
 have hmb:m≠b:=fun e=>by rw [e,Nat.beq_refl] at hbm;cases hbm
 refine Qc.live fun hlive=> ?_
 have hbl:=hlive b _ hb
 have hml:=hlive m _ hm
 have hbm':Nat.beq b m=false:=Dg (fun e=>hmb e.symm)
 have hbm2:Nat.beq m b=false:=hbm
 have s1:Xb [(b,0),(m,1)] 0 0=some b:=rfl
 have s2:Xb [(b,0),(m,1)] 0 1=some m:=rfl
 refine Qc.at (n1:=2) (O1:=sbO u 0 1 l) [b,m] [(b,0),(m,1)] ?_ ⟨⟨_,(Wi (Qp.2 (by simp))).trans hb,Wa (.ptr (by simp)) (by simp)⟩,⟨_,(Wi (Qp.2 (by simp))).trans hm,We l⟩,trivial⟩ (ha _ (by simp)) h ?_
 ·show (wfR 0 2 [(b,0),(m,1)]&&nodupB [b,m]&&_)=true
  simp only [nodupB,List.all_cons,List.all_nil,hbm']
  rfl
 ·rintro v K ⟨rfl,u',hp,rfl⟩
  exact ⟨v,sbO u' b H.next l',sb_back hr (.inr ⟨m,hmb,hml,rfl⟩) hbl,sb_all (restO_none _ _ (Qp.2 (by simp)) _) (restO_live hlive),rfl,u',hp,rfl⟩
theorem sb_args {b:Nat} (x:VV) (hx:Qd x): ∀ R,(b,0)∈R→Qe R 0 [VV.ptr b 0,x] [.ptr 0 0,x]:=fun R h=> .cons (.ptr h) (.cons (.of hx) .nil)
theorem Qc.sbEnd {P:Program} {f:FuncId} {u:Bool} {l:List UInt8} {H:Heap} {b m:Nat} (h:Qc P f [.ptr 0 0] ⟨sbO u 0 1 l,2⟩ (fun v K=>v=Qn l∧K=⟨[],2⟩))
  (hb:H.get b=some (sbV u b m l)) (hm:H.get m=some (bufX 5 l)) (hbm:Nat.beq m b=false):Qc P f [.ptr b 0] H (fun v K=>v=Qn l∧K=⟨Qs [b,m] H.objs,H.next⟩):=by
 have hmb:m≠b:=fun e=>by rw [e,Nat.beq_refl] at hbm;cases hbm
 refine Qc.live fun hlive=> ?_
 have hbl:=hlive b _ hb
 have hml:=hlive m _ hm
 have hbm':Nat.beq b m=false:=Dg (fun e=>hmb e.symm)
 refine Qc.at (n1:=2) (O1:=sbO u 0 1 l) [b,m] [(b,0),(m,1)] ?_ ⟨⟨_,(Wi (Qp.2 (by simp))).trans hb,Wa (.ptr (by simp)) (by simp)⟩,⟨_,(Wi (Qp.2 (by simp))).trans hm,We l⟩,trivial⟩ (.cons (.ptr (by simp)) .nil) h ?_
 ·show (wfR 0 2 [(b,0),(m,1)]&&nodupB [b,m]&&_)=true
  simp only [nodupB,List.all_cons,List.all_nil,hbm']
  rfl
 ·rintro v K ⟨rfl,rfl⟩
  have e1:Nat.blt b H.next=true:=Qz.2 hbl
  have e2:Nat.blt m H.next=true:=Qz.2 hml
  have e7: ∀ n,Nat.ble 0 n=true:=fun n=>Nat.ble_eq_true_of_le (Nat.zero_le n)
  refine ⟨Qn l,[],⟨?_,.of (Qj l),trivial⟩,rfl,rfl,rfl⟩
  show (wfR 0 (H.next+0) [(0,b),(1,m)]&&true&&true&&true)=true
  simp only [wfR,srcN,e1,e2,e7,hbm,Nat.add_zero]
  rfl
end Go.Proofs.YtpbiblhkcomekaaGreat
