import Derived.Test.YtpbiblhkcomekaaGreatBE5
import Derived.Test.YtpbiblhkcomekaaGreatBQ1
import Derived.Test.YtpbiblhkcomekaaGreatKeys
import Derived.Test.YtpbiblhkcomekaaGreatBA6
/- slices.Sorted of maps.Keys: a map's keys, sorted. -/
namespace Go.Proofs.YtpbiblhkcomekaaGreat
open Go Go.RowKit Go.WideShapes Go.WideMaps
set_option linter.unusedSimpArgs false
set_option linter.unusedVariables false
set_option maxRecDepth 100000
set_option maxHeartbeats 4000000
abbrev keyV (x:List UInt8):Value:= .string ⟨x.toArray⟩
abbrev anyR (_:Value):Option (DataW Unit×List MemPlace):=some (.lit (.bool true),[])
theorem rd_any {x:MapEntry} {s:List UInt8} (hk:x.key=keyV s) (hs:s.length≤1000000):WideElems.rd Tryz.prog 9 anyR x=some (.string s,.lit (.bool true)):=by
 unfold WideElems.rd
 rw [hk,keyOf_string_mk Tryz.underlying9 (s:=⟨s.toArray⟩) (by show s.length≤maxLen;unfold maxLen;omega)]
 simp
theorem owns_any {w:World} {k:Nat} {arr:Array MapEntry} {cl:Nat} {names:List (List UInt8)} (hb:w.heap[k]? = some (.map arr cl)) (hks:arr.toList.map (·.key)=names.map keyV) (hst:MapKept.Stamped arr cl) (hl: ∀ x∈names,x.length≤1000000) (hn:names.length≤100000) :
  ∃ D0:DataW Unit,w.ownsMap Tryz.prog 9 anyR k arr.size D0∧(strKeys D0).Perm names∧Maps.size D0=names.length:=by
 have hsz:arr.size=names.length:=by have:=congrArg List.length hks;simpa using this
 have hat: ∀ (i:Nat) (x:MapEntry),arr.toList[i]? = some x→ ∃ s,names[i]? = some s∧x.key=keyV s:=fun i x hx=>by
  have h1:(arr.toList.map (·.key))[i]? = some x.key:=by rw [List.getElem?_map,hx];rfl
  rw [hks,List.getElem?_map] at h1
  cases hs:names[i]? with
  | none=>rw [hs] at h1;cases h1
  | some s=>rw [hs] at h1;injection h1 with h1;exact ⟨s,rfl,h1.symm⟩
 have hrg:arr.toList.map (WideElems.rg Tryz.prog 9 anyR)=names.map fun s=>(Lit.string s,DataW.lit (.bool true)):=by
  apply List.ext_getElem?
  intro i
  rw [List.getElem?_map,List.getElem?_map]
  cases hx:arr.toList[i]? with
  | none =>
   have h1:arr.toList.length≤i:=List.getElem?_eq_none_iff.1 hx
   have h2:names[i]? = none:=List.getElem?_eq_none_iff.2 (by rw [Array.length_toList] at h1;omega)
   rw [h2]
   rfl
  | some x =>
   obtain ⟨s,h1,h2⟩:=hat i x hx
   rw [h1]
   simp only [Option.map_some,WideElems.rg,rd_any h2 (hl s (List.mem_of_getElem? h1)),Option.getD_some]
 refine ⟨_,⟨arr,cl,hb,⟨by unfold maxLen;omega,hst,fun x hx=> ?_⟩,Nat.le_refl _,rfl⟩,?_,?_⟩
 ·obtain ⟨i,hi,e⟩:=List.mem_iff_getElem.1 hx
  obtain ⟨s,h1,h2⟩:=hat i x (by rw [List.getElem?_eq_getElem hi,e])
  exact ⟨_,rd_any h2 (hl s (List.mem_of_getElem? h1))⟩
 ·rw [hrg]
  have hp:=(sorted_perm (names.map fun s=>(Lit.string s,(DataW.lit (.bool true):DataW Unit)))).map fun p=>strOf p.1
  rw [List.map_map] at hp
  have e:(names.map ((fun p:Lit×DataW Unit=>strOf p.1) ∘ fun s=>(Lit.string s,DataW.lit (.bool true))))=names:=by
   conv=>rhs;rw [← List.map_id names]
   rfl
  rw [e] at hp
  exact hp
 ·rw [hrg]
  show (List.foldr DataW.insert [] _).length=_
  rw [(sorted_perm _).length_eq,List.length_map]
theorem sortsA (m:Nat):AnyZ.SortsIn Tryz.prog Tryz.sortedA_ren Fence.wide m :=
  ⟨fun blk off cap ss W hH hblk hsz=>callsIn_wide.2 (AnyM.slices_Sort_string Tryz.sortA blk off cap ss W hH hblk hsz),
   fun p cap W=>callsIn_wide.2 (AnyM.slices_Sort_string_none Tryz.sortA p cap W)⟩
theorem skeys_call {H:Heap} {q b:Nat} {rw:Bool} {names:List (List UInt8)} {vals:List VV} (hl: ∀ x∈names,x.length≤1000000) (hn:names.length≤100000) (gq:H.get q=some (.map (names.map keyV) vals)) (gb:H.get b=some (.cells rw [.mp q])):Qc Tryz.prog 33 [.fn (.func 54) [] [.ptr b 0]] H (fun v K=>v=roS (names.mergeSort (fun x y=>decide (x≤y)))∧K=H):=fun B M Z ρ w ra h1 h2=>by
 obtain ⟨hlen,hrel⟩:=h2
 match hra:ra.toList,hlen with
 | [a0],_ =>
  have hv:=hrel 0 _ a0 rfl (by rw [hra];rfl)
  cases hv with
  | @fn _ _ _ cs ds g1 r1 g2 r2 =>
   obtain ⟨cs⟩:=cs
   obtain ⟨ds⟩:=ds
   match cs,g1,ds,g2,r2 with
   | [],_,[d0],_,r2 =>
    have hd:=r2 0 _ d0 rfl rfl
    cases hd with
    | @ptr _ _ kb Nb hρb =>
     obtain ⟨dl,p1,p2,p3⟩:=h1.read gb hρb 0 1 (by simp)
     match dl,p2,p1,p3 with
     | [c0],_,p1,p3 =>
      have hc:=p1.2 0 _ c0 rfl rfl
      cases hc with
      | @mp _ kq Nq hρq =>
       have hcell:=p3 0 _ rfl
       rw [J6] at hcell
       obtain ⟨k2,N2,arr,cl,q1,q2,q3,q4,q5⟩:=h1.atMap gq
       rw [hρq] at q1
       injection q1 with q1
       injection q1 with q1 q1'
       subst q1 q1'
       obtain ⟨D0,ho,hperm,hsz⟩:=owns_any q2 q3.symm q5 hl hn
       have hBm:kb < w.heap.size:=h1.lt gb hρb
       have hseq:=AnyZ.keys_gives (ρ:=Tryz.keysA_ren) {Tryz.keysA with} Fence.wide 2 trivial rfl (by omega) kb kq arr.size D0 w hBm hcell ho
       have cS:=AnyZ.sorted_in Tryz.sortedA Fence.wide 5 trivial trivial trivial trivial rfl (by omega) (sortsA _) (enters_of Tryz.func53 (by kernel_rfl) rfl) 54 #[.pointer (some ⟨kb,0,none⟩)] trivial (enters_of Tryz.func54 (by kernel_rfl) rfl) _ _ (by rw [hsz];unfold maxLen;omega) (by rw [hsz];omega) _ hseq
       obtain rfl:ra= #[.func (.func 54) #[] #[.pointer (some ⟨kb,0,none⟩)]]:=by
        cases ra
        simp only at hra
        rw [hra]
       refine (callsIn_wide.1 cS).mono ?_
       rintro e w' ⟨v,ss,rfl,hS,hrow,hnil,hb⟩
       have hss:ss.Perm names:=hS.trans hperm
       have hsort:=mergeSort_of_perm hss
       have hln:ss.length=(names.mergeSort leB).length:=by rw [List.length_mergeSort,hss.length_eq]
       rw [hsort,hln] at hrow
       generalize names.mergeSort leB=ls at *
       obtain ⟨e3,r3⟩:=h1.step (Z':=fun k=>Z k∨(w.heap.size≤k∧k < w'.heap.size)) hb.os hb.tape hb.output hb.size (fun k hk=>hb.block k hk) (fun _ h=> .inl h) (fun _ h=>h)
       refine ⟨v,roS ls,H,_,ρ,rfl,⟨rfl,rfl⟩,e3,r3,?_⟩
       rcases hrow.2 with ⟨rfl,hz⟩|⟨g,cap,cur,rfl,hbase,hg,c1,c2,c3,c4⟩
       ·obtain rfl:ls= []:=List.eq_nil_of_length_eq_zero hz
        exact .ro0
       ·have hlt:g < w'.heap.size:=(Array.getElem?_eq_some_iff.1 hg).1
        refine .ro (cs:=ls.map encStr) (.inr ⟨hbase,hlt⟩) c1 (by simp) (fun i hi=> ?_) (fun i u c hu hc=> ?_)
        ·rw [Nat.zero_add,← c4,List.getElem?_take_of_lt (by simpa using hi),Array.getElem?_toList]
         simp [World.cell?,hg]
        ·rw [List.getElem?_map] at hu hc
         cases hp:ls[i]? with
         | none=>rw [hp] at hu;cases hu
         | some x =>
          rw [hp] at hu hc
          injection hu with hu
          injection hc with hc
          subst hu hc
          exact .sc rfl
open Go Go.RowKit
set_option maxHeartbeats 8000000
def hdC (h:Hnd):List VV:= [.ro h.params.length (ivR h.params),.ro h.code.length (Xn h.code)]
def hdR (l:List Hnd):List VV:=Xy hdC l
theorem hdC_len (h:Hnd):(hdC h).length=2:=rfl
theorem hdC_nl (h:Hnd): ∀ v∈hdC h,Qd v:=fun v hv=>by
 simp only [hdC,List.mem_cons,List.not_mem_nil,or_false] at hv
 rcases hv with rfl|rfl
 ·exact Qx (Ug _)
 ·exact Qx (Yx _)
theorem hdR_nl (l:List Hnd): ∀ v∈hdR l,Qd v:=Dt hdC_nl l
theorem hdR_len (l:List Hnd):(hdR l).length=l.length*2:=Ce hdC_len l
theorem hdR_snoc (l:List Hnd) (h:Hnd):hdR (l++ [h])=hdR l++hdC h:=Ni h l
def srtH (l:List Hnd):List Hnd:=l.mergeSort (fun x y=>decide (x.name≤y.name))
theorem srtH_names (l:List Hnd):(l.map (·.name)).mergeSort (fun x y=>decide (x≤y))=(srtH l).map (·.name):=by
 unfold srtH
 rw [List.map_mergeSort (s:=fun x y:List UInt8=>decide (x≤y))]
 intro a _ b _
 rfl
theorem srtH_len (l:List Hnd):(srtH l).length=l.length:=List.length_mergeSort l
theorem srtH_mem {l:List Hnd} {h:Hnd}:h∈srtH l↔h∈l:=List.mem_mergeSort
theorem mfind_some: ∀ (l:List Hnd) (i:Nat) (hd:Hnd),hd∈l→(l.map (·.name)).Nodup→ ∃ j,W9 .string (keyV hd.name) ((l.map (·.name)).map keyV) (l.map hV) i=some (some (j,hV hd))
 | [],i,hd,h,_=>by cases h
 | y::r,i,hd,h,hn=>by
  rw [List.map_cons,List.nodup_cons] at hn
  have hk:keyEq .string (keyV hd.name) (keyV y.name)=some (hd.name==y.name):=rfl
  simp only [List.map_cons,W9,hk]
  by_cases e:hd.name=y.name
  ·have hy:hd=y:=by
    rcases List.mem_cons.1 h with h|h
    ·exact h
    ·exact absurd (List.mem_map.2 ⟨hd,h,e⟩) hn.1
   subst hy
   rw [show (hd.name==hd.name)=true by simp]
   exact ⟨i,rfl⟩
  ·rw [show (hd.name==y.name)=false by simpa using e]
   rcases List.mem_cons.1 h with h|h
   ·exact absurd (congrArg Hnd.name h) e
   ·exact mfind_some r (i+1) hd h hn.2
theorem Qr.lookH {o:Oper} {ts:List VV} {H:Heap} {K:VV→Heap→Prop} {names:List (List UInt8)} {vs:List VV} {tx:List UInt8} {v:VV} {b i j:Nat} (ho:o.op= .lookup 97 (.tmp i) (.tmp j) false) (h1:Qh ts (.tmp i)= .mp b) (h2:Qh ts (.tmp j)=Qn tx) (hg:H.get b=some (.map (names.map keyV) vs)) (hf: ∃ j,W9 .string (keyV tx) (names.map keyV) vs 0=some (some (j,v))) (k:K v H):Qr Tryz.prog o ts H K:=by
 obtain ⟨m,hm⟩:=hf
 refine Qr.via (v:=v) (H':=H) ?_ k
 obtain ⟨kt,e,u1,u2⟩: ∃ kt e,(Tryz.prog).underlying 97=some (.map kt e)∧(Tryz.prog).underlying kt=some .string:=⟨_,_,rfl,rfl⟩
 have hs:Qn tx= .sc (keyV tx):=rfl
 have hk:isKeyB .string (keyV tx)=true:=rfl
 simp only [vop,ho,h1,h2,B5,vlook,u1,u2,hs,hk,hg,hm]
 rfl
theorem nmH_len (l:List Hnd):(nmR (l.map (·.name))).length=l.length*1:=by rw [Wb,List.length_map]
theorem sty_Hd:B2 Tryz.prog 29 2 48:=⟨⟨_,_,_,rfl,rfl,rfl,rfl,rfl,rfl⟩⟩
theorem GOp.drawn1H {o:Oper} {ts:List VV} {H:Heap} {i:Nat} {x:Hnd} (ho:o.op= .buildSlice 29 1 #[(0,.tmp i)]) (hx:ts[i]? = some (hV x)) (ha:(ts.set i .junk).all scB=true) :
  GOp Tryz.prog o ts H (fun u K'=>Is u (.ro 1 (hdC x)) K' H):=⟨by
 have hn2: ∀ v∈hdC x,Qd v:=hdC_nl x
 have hv:vop Tryz.prog o ts ⟨[],0⟩=some (.sl 0 0 1 (some 1) 2,⟨[(0,.cells true (hdC x))],1⟩):=by
  have hz:Jr Tryz.prog 38=some 2:=by kernel_rfl
  have hl:Kj Tryz.prog 38=some [.sc (.slice none 0 0),.sc (.slice none 0 0)]:=by kernel_rfl
  have he:Qh ts (.tmp i)= .ag (hdC x):=by simp only [Qh,hx,Option.getD_some];rfl
  have h1:cellsOf (.ag (hdC x))=some (hdC x):=rfl
  simp only [vop,ho,Za,Tryz.underlying29,hz,hl,List.map_cons,List.map_nil,he,Bg,h1]
  rfl
 have hn: ∀ v∈ts,Qd v:=fun v hv=>by
  obtain ⟨j,hj,e⟩:=List.mem_iff_getElem.1 hv
  by_cases hji:j=i
  ·subst hji
   rw [List.getElem?_eq_getElem hj,e] at hx
   injection hx with hx
   subst hx
   exact hV_nl x
  ·refine Zi (List.all_eq_true.1 ha v ?_)
   refine List.mem_iff_getElem.2 ⟨j,by simpa using hj,?_⟩
   rw [List.getElem_set_ne (fun h=>hji h.symm)]
   exact e
 refine (Q3.frozen (u:= .ro 1 (hdC x)) hn hv ?_).mono fun x K' e=>⟨e.1,e.2⟩
 exact Frz.sl (K:=⟨[(0,.cells true (hdC x))],1⟩) (b:=0) (o:=0) (n:=1) (z:=2) (c:=some 1) rfl (by simp [hdC_len]) hn2⟩
def pgB (g:Pgm) (x:VV):List (Nat×VObj) :=
 [(4,.cells true [.ptr 0 0]),(0,.cells true [.gs 2 g.names.length 1,.gs 3 g.consts.length 3,.mp 1,x]),(1,.map ((g.hs.map (·.name)).map keyV) (g.hs.map hV)),(2,.opt (nmR g.names)),(3,.opt (Yy g.consts))]
theorem loopCap {f:FuncId} {args ts ts':List VV} {ps:List Tmp} {asg bd:Code} {a d:Nat} {O:List (Nat×VObj)} {n:Nat} {Q:VV→Heap→Prop} (h: ∀ lo,lo=VObj.loop ts' ps asg bd .ready none d→Qc Tryz.prog f args ⟨(a,.loop ts ps asg bd .ready none d)::O,n⟩ Q):Qc Tryz.prog f args ⟨(a,.loop ts ps asg bd .ready none d)::O,n⟩ Q:=h _ rfl
theorem all_call {g:Pgm} {x:VV} (hx:Qd x) (hn:(g.hs.map (·.name)).Nodup) (hl:g.hs.length≤100000) (hln: ∀ h∈g.hs,h.name.length≤1000000∧h.params.length≤1000000∧h.code.length≤1000000) :
  Qc Tryz.prog 9 [.fn (.func 32) [] [.ptr 4 0]] ⟨pgB g x,5⟩ (fun v K=>v= .tp [.gs 5 g.hs.length 1,.gs 6 g.hs.length 2]∧K=⟨pgB g x++ [(5,.opt (nmR ((srtH g.hs).map (·.name)))),(6,.opt (hdR (srtH g.hs)))],7⟩):=by
 refine Qc.fin ?_
 have hj:True:=trivial
 have hsn:True:=trivial
 have hsk:=fun (H:Heap) (q:Nat) (gq:H.get 1=some (.map ((g.hs.map (·.name)).map keyV) (g.hs.map hV))) (gb:H.get q=some (.cells true [.mp 1]))=>skeys_call (H:=H) (q:=1) (b:=q) (rw:=true) (names:=g.hs.map (·.name)) (vals:=g.hs.map hV) (by intro y hy;obtain ⟨h,h1,rfl⟩:=List.mem_map.1 hy;exact (hln h h1).1) (by simpa using hl) gq gb
 rw [srtH_names] at hsk
 have hsl:=srtH_len g.hs
 have hm:=fun h=>(srtH_mem (l:=g.hs) (h:=h)).1
 generalize hS:srtH g.hs=S at *
 have hlr:roS (S.map (·.name))= .ro S.length (nmR (S.map (·.name))):=by unfold roS nmR;rw [List.length_map]
 rw [hlr] at hsk
 refine Qc.go Tryz.func9 rfl ?_
 (repeat' (first|with_reducible refine And.intro ?_ ?_|((with_reducible intro hc);(try simp only [zA,zB,zC,zD,zE,zF,zG,zH,zI,zJ,zK,zL,zM,zN,zO,zP,zQ,zR,zS,zT,zU,zV,zW] at hc);(first|exact absurd rfl hc|exact absurd trivial hc|(exfalso;omega)|skip))|exact Is.mk rfl rfl|((conv=>whnf);first|(with_reducible first|refine And.intro ?_ ?_|intro hx|apply Val.via|apply Qk.via)|exact Is.mk rfl rfl|refine Ji ?_ ?_|refine xA (by omega) ?_|(refine xB ?_;intro kw hk1 hk2)|refine xC (by omega) ?_|refine xD ?_|refine xE (by omega) ?_|refine xF (by omega) ?_|refine xG ?_|refine xH ?_|refine xI (by omega) ?_|refine xJ (by omega) ?_|(with_reducible refine Yq ?_)|refine Exists.intro _ (And.intro (by (first|exact Qa vagg_str hj (Q4 rfl rfl)|exact Qa rfl rfl rfl|rfl)) ?_)|refine GOp.drawn (by rfl) (by rfl) (Nat.le_of_ble_eq_true (by rfl)) (by rfl)|refine GOp.via (by rfl) ?_|fail|(with_reducible first|refine Qw ?_|refine Yn ?_|refine Yo ?_|refine X6 ?_|refine Ym ?_|refine Yp ?_|refine Yl ?_))))
 (all_goals try exact om)
 refine Ju.mk (GWP.range0 rfl rfl ?_)
 change Qc Tryz.prog 32 [.yl 8,.ptr 4 0] ⟨[(8,.loop _ _ _ _ .ready none 7),(7,.defs),(6,.cells true [.sc (.slice none 0 0)]),(5,.cells true [.sc (.slice none 0 0)]),(4,.cells true [.ptr 0 0]),(0,.cells true [.gs 2 g.names.length 1,.gs 3 g.consts.length 3,.mp 1,x]),(1,.map ((g.hs.map (·.name)).map keyV) (g.hs.map hV)),(2,.opt (nmR g.names)),(3,.opt (Yy g.consts))],9⟩ _
 refine loopCap (ts':= [.junk,.junk,.junk,.junk,.ptr 5 0,.ptr 6 0,.junk,.junk,.junk,.junk,.junk,.junk,.junk,.junk,.junk,.junk,.junk,.junk,.junk,.junk,.junk]) ?_
 intro lo hlo
 refine Qc.go Tryz.func32 rfl ?_
 (repeat' (first|with_reducible refine And.intro ?_ ?_|((with_reducible intro hc);(try simp only [zA,zB,zC,zD,zE,zF,zG,zH,zI,zJ,zK,zL,zM,zN,zO,zP,zQ,zR,zS,zT,zU,zV,zW] at hc);(first|exact absurd rfl hc|exact absurd trivial hc|(exfalso;omega)|skip))|exact Is.mk rfl rfl|((conv=>whnf);first|(with_reducible first|refine And.intro ?_ ?_|intro hx|apply Val.via|apply Qk.via)|exact Is.mk rfl rfl|refine Ji ?_ ?_|refine xA (by omega) ?_|(refine xB ?_;intro kw hk1 hk2)|refine xC (by omega) ?_|refine xD ?_|refine xE (by omega) ?_|refine xF (by omega) ?_|refine xG ?_|refine xH ?_|refine xI (by omega) ?_|refine xJ (by omega) ?_|(with_reducible refine Yq ?_)|refine Exists.intro _ (And.intro (by (first|exact Qa vagg_str hj (Q4 rfl rfl)|exact Qa rfl rfl rfl|rfl)) ?_)|refine GOp.drawn (by rfl) (by rfl) (Nat.le_of_ble_eq_true (by rfl)) (by rfl)|refine GOp.via (by rfl) ?_|(first|(refine Xc.mk ((hsk _ _ rfl rfl).mono ?_);rintro _ _ ⟨rfl,rfl⟩)|(refine Xc.mk (Qc.inl Tryz.func34 rfl ?_)))|(with_reducible first|refine Qw ?_|refine Yn ?_|refine Yo ?_|refine X6 ?_|refine Ym ?_|refine Yp ?_|refine Yl ?_))))
 (all_goals try exact om)
 (refine Ju.mk (GWP.loopB [5,6,8] (fun (y:Nat×List Hnd)=>y.1≤S.length∧y.2=S.take y.1) (fun y=> [(14,iV y.1)]) (fun y=> [(5,.cells true [.gs 10 y.2.length 1]),(6,.cells true [.gs 11 y.2.length 2]),(8,lo),(10,.opt (nmR (y.2.map (·.name)))),(11,.opt (hdR y.2))]) 12 (fun y=>S.length - y.1) (0,[]) ⟨Nat.zero_le _,rfl⟩ ?_);(conv=>whnf);refine And.intro ?_ ?_)
 ·focus (refine N7.of [] rfl rfl (by repeat' (first|exact trivial|refine And.intro rfl ?_)) rfl ?_ ?_;all_goals (repeat' (first|exact trivial|(refine And.intro ?_ ?_)|(refine Exists.intro _ (And.intro rfl ?_))|(refine Jx.opt ?_)|(refine Jx.toOpt ?_)|(refine Jx.cells ?_)|exact Jx.defs|exact Qe.nil|(refine Qe.cons ?_ ?_)|(first|(first|(rw [hlo];exact Jx.loop (by repeat' (first|exact Qe.nil|exact Qi.junk|exact Qi.ptrL (Nat.le_of_ble_eq_true rfl)|refine Qe.cons ?_ ?_)) (.inl ⟨Nat.le_of_ble_eq_true rfl,rfl⟩))|exact Jx.loop (by repeat' (first|exact Qe.nil|exact Qi.junk|exact Qi.ptrL (Nat.le_of_ble_eq_true rfl)|refine Qe.cons ?_ ?_)) (.inl ⟨Nat.le_of_ble_eq_true rfl,rfl⟩)|exact Qi.gsN|exact Qi.eq (Q9 (by omega)) (Qb _)|exact Qe.eq hsn.symm (Jb _)|exact Qe.eq hsd.symm (hdR_nl _)|exact Qe.of (Jb _)|exact Qe.of (hdR_nl _))|(with_reducible exact Qi.sc)|exact Qi.gsN|exact Qi.gsZ|exact Qi.gsL (by decide)|exact Qi.slL (by decide)|((first|refine Qi.gsE (by (first|exact mhA|exact mhB|exact mhC|(simp;done))) ?_|refine Qi.eq (Q9 ?_) (Qb _));(first|rfl|omega|(simp only [List.length_append,List.length_cons,List.length_nil,List.length_map,List.length_take,List.length_drop] <;> omega)|(simp only <;> omega)|(simp <;> omega)))|exact Qi.undef)|(with_unfolding_all exact (rfl:(_:VObj)=_)))))
 rintro ⟨i,out⟩ ⟨g1,g2⟩
 simp only at g1 g2 ⊢
 have hol:out.length=i:=by rw [g2,List.length_take];omega
 by_cases hil:i < S.length
 ·obtain ⟨hd,hk⟩: ∃ hd,S[i]? = some hd:=⟨_,List.getElem?_eq_getElem hil⟩
  clear hj hsn
  have hj:(nmR (S.map (·.name)))[i]? = some (Qn hd.name):=by unfold nmR;rw [List.getElem?_map,List.getElem?_map,hk];rfl
  have hmem:=hm hd (List.mem_of_getElem? hk)
  have hfind:=mfind_some g.hs 0 hd hmem hn
  obtain ⟨l1,l2,l3⟩:=hln hd hmem
  have htw:=fun H=>twin_call hd l2 l3 H
  have hg2:out++ [hd]=S.take (i+1):=by rw [List.take_add_one,hk,g2];rfl
  have hsn:nmR ((out++ [hd]).map (·.name))=nmR (out.map (·.name))++ [Qn hd.name]:=by rw [List.map_append];exact Bo _ _
  have hsd:hdR (out++ [hd])=hdR out++hdC hd:=hdR_snoc _ _
  subst hlo
  (repeat' (first|with_reducible refine And.intro ?_ ?_|((with_reducible intro hc);(try simp only [zA,zB,zC,zD,zE,zF,zG,zH,zI,zJ,zK,zL,zM,zN,zO,zP,zQ,zR,zS,zT,zU,zV,zW] at hc);(first|exact absurd rfl hc|exact absurd trivial hc|(exfalso;omega)|skip))|exact Is.mk rfl rfl|((conv=>whnf);first|(with_reducible first|refine And.intro ?_ ?_|intro hx|apply Val.via|apply Qk.via)|exact Is.mk rfl rfl|refine Ji ?_ ?_|refine xA (by omega) ?_|(refine xB ?_;intro kw hk1 hk2)|refine xC (by omega) ?_|refine xD ?_|refine xE (by omega) ?_|refine xF (by omega) ?_|refine xG ?_|refine xH ?_|refine xI (by omega) ?_|refine xJ (by omega) ?_|(with_reducible refine Yq ?_)|refine Exists.intro _ (And.intro (by (first|exact Qa vagg_str hj (Q4 rfl rfl)|exact Qa rfl rfl rfl|rfl)) ?_)|refine GOp.drawn (by rfl) (by rfl) (Nat.le_of_ble_eq_true (by rfl)) (by rfl)|refine GOp.via (by rfl) ?_|(first|(refine Qw (Qr.lookH (names:=g.hs.map (·.name)) (tx:=hd.name) (v:=hV hd) rfl rfl rfl rfl hfind ?_))|(refine Xc.mk ((htw _).mono ?_);rintro _ _ ⟨rfl,rfl⟩))|(with_reducible first|refine Qw ?_|refine Yn ?_|refine Yo ?_|refine X6 ?_|refine Ym ?_|refine Yp ?_|refine Yl ?_))))
  (all_goals try exact om)
  (refine GRound'.mk (J9.go rfl rfl ?_))
  (repeat' (first|with_reducible refine And.intro ?_ ?_|((with_reducible intro hc);(try simp only [zA,zB,zC,zD,zE,zF,zG,zH,zI,zJ,zK,zL,zM,zN,zO,zP,zQ,zR,zS,zT,zU,zV,zW] at hc);(first|exact absurd rfl hc|exact absurd trivial hc|(exfalso;omega)|skip))|exact Is.mk rfl rfl|((conv=>whnf);first|(with_reducible first|refine And.intro ?_ ?_|intro hx|apply Val.via|apply Qk.via)|exact Is.mk rfl rfl|refine Ji ?_ ?_|refine xA (by omega) ?_|(refine xB ?_;intro kw hk1 hk2)|refine xC (by omega) ?_|refine xD ?_|refine xE (by omega) ?_|refine xF (by omega) ?_|refine xG ?_|refine xH ?_|refine xI (by omega) ?_|refine xJ (by omega) ?_|(with_reducible refine Yq ?_)|refine Exists.intro _ (And.intro (by (first|exact Qa vagg_str hj (Q4 rfl rfl)|exact Qa rfl rfl rfl|rfl)) ?_)|refine GOp.drawn (by rfl) (by rfl) (Nat.le_of_ble_eq_true (by rfl)) (by rfl)|refine GOp.via (by rfl) ?_|fail|(with_reducible first|refine Qw ?_|refine Yn ?_|refine Yo ?_|refine X6 ?_|refine Ym ?_|refine Yp ?_|refine Yl ?_))))
  (all_goals try exact om)
  refine Ju.mk (GWP.drawM mixed 21 [3,7,8,9] (fun H=> [((H.del 10).add (.opt (nmR (out.map (·.name))++ [Qn hd.name]))),((((H.del 10).add (.opt (nmR (out.map (·.name))++ [Qn hd.name]))).del 11).add (.opt (hdR out++hdC hd))),(((((H.del 10).add (.opt (nmR (out.map (·.name))++ [Qn hd.name]))).del 11).add (.opt (hdR out++hdC hd))).set 5 (.cells true [.gs H.next (out.length+1) 1])),((((((H.del 10).add (.opt (nmR (out.map (·.name))++ [Qn hd.name]))).del 11).add (.opt (hdR out++hdC hd))).set 5 (.cells true [.gs H.next (out.length+1) 1])).set 6 (.cells true [.gs (H.next+1) (out.length+1) 2]))]) (by kernel_rfl) (by rfl) ?_)
  repeat' (first|with_reducible refine And.intro ?_ ?_|((with_reducible intro hc);(try simp only [zA,zB,zC,zD,zE,zF,zG,zH,zI,zJ,zK,zL,zM,zN,zO,zP,zQ,zR,zS,zT,zU,zV,zW] at hc);(first|exact absurd rfl hc|exact absurd trivial hc|(exfalso;omega)|skip))|exact Is.mk rfl rfl|exact trivial|((conv=>whnf);first|with_reducible refine And.intro ?_ ?_|with_reducible intro hx|exact Is.mk rfl rfl|exact trivial|(with_reducible first|apply Val.via|apply Qk.via)|refine Ji ?_ ?_|refine xA (by omega) ?_|(refine xB ?_;intro kw hk1 hk2)|refine xC (by omega) ?_|refine xD ?_|refine xE (by omega) ?_|refine xF (by omega) ?_|refine xG ?_|refine xH ?_|refine xI (by omega) ?_|refine xJ (by omega) ?_|(with_reducible refine Yq ?_)|refine Exists.intro _ (And.intro (by (first|exact Qa vagg_str hj (Q4 rfl rfl)|exact Qa rfl rfl rfl|rfl)) ?_)|(first|refine GOp.drawn1H (x:=hd) (by rfl) (by rfl) (by rfl)|refine GOp.drawn (by rfl) (by rfl) (Nat.le_of_ble_eq_true (by rfl)) (by rfl))|refine GOp.drawn (by rfl) (by rfl) (Nat.le_of_ble_eq_true (by rfl)) (by rfl)|refine GOp.via (by rfl) ?_|(first|(refine Qw (Qr.grow rfl sty_Sx (d:= .slice 9) Tryz.underlying28 (by intro k h;cases h) rfl (m:=1) (l:= [Qn hd.name]) (by rfl) (by rfl) rfl (nmH_len _) (by omega) (by omega) ?_))|(refine Qw (Qr.grow rfl sty_Hd (d:= .slice 38) Tryz.underlying29 (by intro k h;cases h) rfl (m:=1) (l:=hdC hd) (by rfl) (by rfl) rfl (hdR_len _) (by omega) (by omega) ?_)))|(with_reducible first|refine Qw ?_|refine Yn ?_|refine Yo ?_|refine X6 ?_|refine Ym ?_|refine Yp ?_|refine Yl ?_)))
  (all_goals try exact om)
  focus (refine Qg.mk ⟨(i+1,out++ [hd]),⟨by simp only;omega,hg2⟩,?_,N7.of [(13,10),(14,11)] rfl rfl (by repeat' (first|exact trivial|refine And.intro rfl ?_)) rfl ?_ ?_⟩;(first|omega|(simp only;omega));all_goals (repeat' (first|exact trivial|(refine And.intro ?_ ?_)|(refine Exists.intro _ (And.intro rfl ?_))|(refine Jx.opt ?_)|(refine Jx.toOpt ?_)|(refine Jx.cells ?_)|exact Jx.defs|exact Qe.nil|(refine Qe.cons ?_ ?_)|(first|(first|(rw [hlo];exact Jx.loop (by repeat' (first|exact Qe.nil|exact Qi.junk|exact Qi.ptrL (Nat.le_of_ble_eq_true rfl)|refine Qe.cons ?_ ?_)) (.inl ⟨Nat.le_of_ble_eq_true rfl,rfl⟩))|exact Jx.loop (by repeat' (first|exact Qe.nil|exact Qi.junk|exact Qi.ptrL (Nat.le_of_ble_eq_true rfl)|refine Qe.cons ?_ ?_)) (.inl ⟨Nat.le_of_ble_eq_true rfl,rfl⟩)|exact Qi.gsN|exact Qi.eq (Q9 (by omega)) (Qb _)|exact Qe.eq hsn.symm (Jb _)|exact Qe.eq hsd.symm (hdR_nl _)|exact Qe.of (Jb _)|exact Qe.of (hdR_nl _))|(with_reducible exact Qi.sc)|exact Qi.gsN|exact Qi.gsZ|exact Qi.gsL (by decide)|exact Qi.slL (by decide)|((first|refine Qi.gsE (by (first|exact mhA|exact mhB|exact mhC|(simp;done))) ?_|refine Qi.eq (Q9 ?_) (Qb _));(first|rfl|omega|(simp only [List.length_append,List.length_cons,List.length_nil,List.length_map,List.length_take,List.length_drop] <;> omega)|(simp only <;> omega)|(simp <;> omega)))|exact Qi.undef)|(with_unfolding_all exact (rfl:(_:VObj)=_)))))
 ·obtain rfl:i=S.length:=by omega
  rw [List.take_length] at g2
  subst g2 hlo
  (repeat' (first|with_reducible refine And.intro ?_ ?_|((with_reducible intro hc);(try simp only [zA,zB,zC,zD,zE,zF,zG,zH,zI,zJ,zK,zL,zM,zN,zO,zP,zQ,zR,zS,zT,zU,zV,zW] at hc);(first|exact absurd rfl hc|exact absurd trivial hc|(exfalso;omega)|skip))|exact Is.mk rfl rfl|((conv=>whnf);first|(with_reducible first|refine And.intro ?_ ?_|intro hx|apply Val.via|apply Qk.via)|exact Is.mk rfl rfl|refine Ji ?_ ?_|refine xA (by omega) ?_|(refine xB ?_;intro kw hk1 hk2)|refine xC (by omega) ?_|refine xD ?_|refine xE (by omega) ?_|refine xF (by omega) ?_|refine xG ?_|refine xH ?_|refine xI (by omega) ?_|refine xJ (by omega) ?_|(with_reducible refine Yq ?_)|refine Exists.intro _ (And.intro (by (first|exact Qa vagg_str hj (Q4 rfl rfl)|exact Qa rfl rfl rfl|rfl)) ?_)|refine GOp.drawn (by rfl) (by rfl) (Nat.le_of_ble_eq_true (by rfl)) (by rfl)|refine GOp.via (by rfl) ?_|refine dY ?_|fail|(with_reducible first|refine Qw ?_|refine Yn ?_|refine Yo ?_|refine X6 ?_|refine Ym ?_|refine Yp ?_|refine Yl ?_))))
  (all_goals try exact om)
  (refine Qg.mk ⟨_,_,_,_,_,_,_,rfl,(by intro h;cases h),?_⟩)
  (repeat' (first|with_reducible refine And.intro ?_ ?_|((with_reducible intro hc);(try simp only [zA,zB,zC,zD,zE,zF,zG,zH,zI,zJ,zK,zL,zM,zN,zO,zP,zQ,zR,zS,zT,zU,zV,zW] at hc);(first|exact absurd rfl hc|exact absurd trivial hc|(exfalso;omega)|skip))|exact Is.mk rfl rfl|((conv=>whnf);first|(with_reducible first|refine And.intro ?_ ?_|intro hx|apply Val.via|apply Qk.via)|exact Is.mk rfl rfl|refine Ji ?_ ?_|refine xA (by omega) ?_|(refine xB ?_;intro kw hk1 hk2)|refine xC (by omega) ?_|refine xD ?_|refine xE (by omega) ?_|refine xF (by omega) ?_|refine xG ?_|refine xH ?_|refine xI (by omega) ?_|refine xJ (by omega) ?_|(with_reducible refine Yq ?_)|refine Exists.intro _ (And.intro (by (first|exact Qa vagg_str hj (Q4 rfl rfl)|exact Qa rfl rfl rfl|rfl)) ?_)|refine GOp.drawn (by rfl) (by rfl) (Nat.le_of_ble_eq_true (by rfl)) (by rfl)|refine GOp.via (by rfl) ?_|refine dY ?_|fail|(with_reducible first|refine Qw ?_|refine Yn ?_|refine Yo ?_|refine X6 ?_|refine Ym ?_|refine Yp ?_|refine Yl ?_))))
  (all_goals try exact om)
  rw [← hsl]
  refine Qg.mk ⟨[(0,0),(1,1),(2,2),(3,3),(4,4),(10,5),(11,6)],.tp [.gs 5 out.length 1,.gs 6 out.length 2],pgB g x++ [(5,.opt (nmR (out.map (·.name)))),(6,.opt (hdR out))],7,rfl,rfl,rfl,.tp (.cons (.gs (by decide)) (.cons (.gs (by decide)) .nil)),?_,rfl,rfl⟩
  exact ⟨⟨_,rfl,.cells (.cons (.ptr (by decide)) .nil)⟩,⟨_,rfl,Eo hx (by decide) (by decide) (by decide)⟩,⟨_,rfl,.map (Qe.of fun v hv=>by obtain ⟨z,_,rfl⟩:=List.mem_map.1 hv;exact hV_nl z)⟩,⟨_,rfl,.opt (Qe.of (Jb _))⟩,⟨_,rfl,.opt (Qe.of (Jg _))⟩,⟨_,rfl,.opt (Qe.of (Jb _))⟩,⟨_,rfl,.opt (Qe.of (hdR_nl _))⟩,trivial⟩
end Go.Proofs.YtpbiblhkcomekaaGreat
