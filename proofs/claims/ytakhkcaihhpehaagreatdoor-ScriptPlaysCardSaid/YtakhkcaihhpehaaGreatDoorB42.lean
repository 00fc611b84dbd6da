/- Texts of one proof, one behind the other: RefFar, DocFar, SameLines. -/
import Derived.Test.YtakhkcaihhpehaaGreatDoorB41
import Derived.Test.YtakhkcaihhpehaaGreatDoorB36
import Derived.Test.YtakhkcaihhpehaaGreatDoorB27
import Derived.Test.YtakhkcaihhpehaaGreatDoorB37
import Derived.Test.YtakhkcaihhpehaaGreatDoorB34
import Derived.Test.YtakhkcaihhpehaaGreatDoorB16
namespace Go.Proofs.YtakhkcaihhpehaaGreatDoor
open Go.RowKit
open Lib (hid)
set_option linter.unusedVariables false
set_option maxRecDepth 100000
set_option maxHeartbeats 51200000
section
def PMk.rvals(m:PMk):List Value:=[.string (bs m.n),.int .i64 m.N,.int .i64 m.S]
def zdm(l:List PMk):List Value:=l.flatMap PMk.rvals
theorem PMk.rvals_len(m:PMk):m.rvals.length=3:=rfl
theorem zr8(l:List PMk):(zdm l).length=l.length * 3:=zlq _ 3 PMk.rvals_len l
theorem zr9(l:List PMk)(k:Nat)(h:k<l.length):(zdm l)[k * 3]?=some (.string (bs l[k].n))∧(zdm l)[k * 3+1]?=some (.int .i64 l[k].N)∧(zdm l)[k * 3+2]?=some (.int .i64 l[k].S):=by
 refine⟨?_,?_,?_⟩
 ·have:=zcy PMk.rvals 3 PMk.rvals_len l k 0 h (by omega);rw[Nat.add_zero] at this;exact this
 ·exact zcy PMk.rvals 3 PMk.rvals_len l k 1 h (by omega)
 ·exact zcy PMk.rvals 3 PMk.rvals_len l k 2 h (by omega)
def ziv(name data:List UInt8)(l:List PMk)(n:Nat):Prop:=∀m∈l,ymo name data m=true→m.N≤n
theorem yez{name data:List UInt8}{l:List PMk}{n:Nat}{m:PMk}(hu:ziv name data l n)(hm:m∈l)(h:m.n=name)(hN:m.N=n)(h1:1≤n)(h2:n≤data.length)(hs:za5 (data.take n)=m.S):zn6 name data l=n:=by
 refine ygq (by omega) hu (.inr ⟨m,hm,(zjv _ _ _).2 ⟨h,by omega,by omega,?_⟩,hN.symm⟩)
 rw[hN,Int.toNat_natCast,hs]
theorem zvd{name data:List UInt8}{l:List PMk}(hu:ziv name data l 0):zn6 name data l=0:=ygq (by omega) hu (.inl rfl)
theorem zsu(name data:List UInt8)(l:List PMk):ziv name data l data.length:=fun m _ h=>((zjv _ _ _).1 h).2.2.1
theorem zve{name data:List UInt8}{l:List PMk}{n:Nat}(h1:1≤n)(hu:ziv name data l n)(hno:∀i,(h:i<l.length)→¬(l[i].n=name∧l[i].N=n∧za5 (data.take n)=l[i].S)):ziv name data l (n - 1):=by
 intro m hm ho
 have h2:=hu m hm ho
 obtain⟨i,hi,rfl⟩:=List.getElem_of_mem hm
 obtain⟨b1,b2,b3,b4⟩:=(zjv _ _ _).1 ho
 by_cases he:l[i].N=n
 ·exact absurd ⟨b1,he,by rw[he,Int.toNat_natCast] at b4;exact b4⟩ (hno i hi)
 ·omega
attribute [local irreducible] zn6 ziv
theorem yi0(l:List PMk)(v:Value)(name data:List UInt8)(w:World)(hl:SliceIs w v 3 (zdm l))(hd:data.length≤100000):
  Calls Tryz.prog 32 #[v,.string (bs name),.string (bs data)] w fun e w'=>e=.returned (.int .i64 (zn6 name data l))∧Below w.heap.size w w':=by
 obtain⟨s,m,c,rfl,hn,h1,h2,hg⟩:=hl.get
 rw[zr8] at hn
 obtain rfl:m=l.length:=by omega
 unfold maxLen at h2
 have HSL:=hid hl
 have hdz:(bs data).size=data.length:=zae data
 have SM:=hid (fun (N:Nat) w'=>zhd (bs (data.take N)) w' (by rw[zae,List.length_take];omega))
 simp only[zai] at SM
 have ST:=hid (zsu name data l)
 have UP:=hid (fun n i (hi:i<l.length) (hu:ziv name data l n)=>yez (m:=l[i]) hu (by simp))
 have U0:=hid (fun(hu:ziv name data l 0)=>zvd hu)
 have UD:=hid (fun n (h:1≤n) (hu:ziv name data l n)=>zve h hu)
 have HDL:=hid (show data.length≤100000 from hd)
 generalize zn6 name data l=r at *
 clear hl hg
 go_enter Tryz.func32,Tryz.ntmps32
 go_wp2_with fail
 go_loopw [6,7,8] (fun _ n _ wr=>∃k:Nat,n=.int .i64 k∧k≤data.length∧ziv name data l k∧Below w.heap.size w wr) (fun _ n _ _=>(intOf n).toNat)
 case atStart=>exact⟨data.length,rfl,by omega,ST.out,Below.refl _ _⟩
 case round=>
  obtain⟨k,rfl,hk,hu,bel⟩:=hrel
  have HU:=hid hu
  have BW:=hid bel
  clear hu bel
  by_cases hk0:0<k
  ·have hkI:(0:Int)<k:=by omega
   have hk64:k≤100000:=by have:=HDL.out;omega
   have EX:=zrx data 0 k
   rw[List.drop_zero,Nat.sub_zero] at EX
   have x1:(k:Int)≤data.length:=by omega
   have x2:(0:Int)≤(k:Int):=by omega
   go_wp2_with fail
   go_loopw [8] (fun i wr'=>∃j:Nat,i=.int .i64 j∧j≤l.length∧(∀t,(h:t<l.length)→t<j→¬(l[t].n=name∧l[t].N=k∧za5 (data.take k)=l[t].S))∧Below w.heap.size w wr') (fun i _=>l.length - (intOf i).toNat)
   case atStart=>exact⟨0,rfl,by omega,fun t h h2=>by omega,BW.out⟩
   case round=>
    obtain⟨j,rfl,hj,hno,bel2⟩:=hrel
    have HNO:=hid hno
    have BJ:=hid bel2
    clear hno bel2
    by_cases hlt:j<l.length
    ·have hltI:(j:Int)<l.length:=by omega
     have CL:=(HSL.out.below BJ.out).get
     obtain⟨s0',n0',c0',e1,_,_,_,g1⟩:=CL
     cases e1
     obtain⟨g2,g3,g4⟩:=zr9 l j hlt
     obtain⟨ad,rfl,d0⟩:=g1 _ _ g2
     obtain⟨a',e',d1⟩:=g1 _ _ g3
     cases e'
     obtain⟨a',e',d2⟩:=g1 _ _ g4
     cases e'
     clear g1 g2 g3 g4
     have KK:=hid (show j+1≤l.length by omega)
     have y1:(0:Int)≤j:=by omega
     have y2:(j:Int).toNat=j:=by omega
     have UPJ:=hid (fun a b c=>UP.out k j hlt HU.out a b hk0 hk c)
     have NX:=hid (fun(hx:¬(l[j].n=name∧l[j].N=k∧za5 (data.take k)=l[j].S))=>show ∀t,(h:t<l.length)→t<j+1→¬(l[t].n=name∧l[t].N=k∧za5 (data.take k)=l[t].S) from fun t ht htj=>by
      by_cases he:t=j
      ·subst he;exact hx
      ·exact HNO.out t ht (by omega))
     generalize l[j]=x at d0 d1 d2 UPJ NX
     have d1:=zao d1
     have d2:=zao d2
     obtain⟨xn,xN,xS⟩:=x
     simp only at d0 d1 d2 UPJ NX
     clear HNO UP U0 UD
     by_cases hx:xn=name
     ·have hb:((bs xn).toList==(bs name).toList)=true:=by rw[zk8,zk8];simpa using hx
      by_cases h3:xN=k
      ·have h3d:((xN:Int)==(k:Int))=true:=by simpa using h3
       have SMK:=hid (fun w'=>SM.out k w')
       by_cases h5:za5 (data.take k)=xS
       ·have h5b:((za5 (data.take k):Int)==(xS:Int))=true:=by rw[beq_iff_eq];omega
        have RES:=hid (UPJ.out hx h3 h5)
        subst h3
        generalize za5 (data.take k)=cs at *
        clear hx NX UPJ
        go_wp2_with fail
        go_quiet ((go_at_call 39;first|exact Calls.quiet_of_same (SMK.out _)|exact ze9 (SMK.out _)|exact zcq (SMK.out _)))
        go_wp2_with fail
        go_ret
        exact⟨by rw[RES.out];rfl,zac BJ.out _⟩
       ·have h5b:((za5 (data.take k):Int)==(xS:Int))=false:=by rw[beq_eq_false_iff_ne];omega
        have NX2:=hid (NX.out (fun h=>h5 h.2.2))
        subst h3
        clear hx NX UPJ
        generalize hcs:za5 (data.take k)=cs at h5b SMK
        go_wp2_with fail
        go_quiet ((go_at_call 39;first|exact Calls.quiet_of_same (SMK.out _)|exact ze9 (SMK.out _)|exact zcq (SMK.out _)))
        go_wp2_with fail
        go_roundw
        case rel=>subst hcs;exact⟨j+1,by go_num,KK.out,NX2.out,zac BJ.out _⟩
        case measure=>simp[intOf];omega
      ·have h3d:((xN:Int)==(k:Int))=false:=by simpa using h3
       have NX2:=hid (NX.out (fun h=>h3 h.2.1))
       clear hx NX UPJ
       go_wp2_with fail
       go_roundw
       case rel=>exact⟨j+1,by go_num,KK.out,NX2.out,BJ.out⟩
       case measure=>simp[intOf];omega
     ·have hb:((bs xn).toList==(bs name).toList)=false:=by rw[zk8,zk8];simpa using hx
      have NX2:=hid (NX.out (fun h=>hx h.1))
      clear hx NX UPJ
      go_wp2_with fail
      go_roundw
      case rel=>exact⟨j+1,by go_num,KK.out,NX2.out,BJ.out⟩
      case measure=>simp[intOf];omega
    ·have hltI:¬(j:Int)<l.length:=by omega
     have DN:=hid (UD.out k hk0 HU.out (fun i h=>HNO.out i h (by omega)))
     clear HNO UP U0 UD
     go_wp2_with fail
     go_roundw
     case rel=>exact⟨k - 1,by go_num,by omega,DN.out,BJ.out⟩
     case measure=>simp[intOf];omega
  ·have hkI:¬(0:Int)<k:=by omega
   obtain rfl:k=0:=by omega
   have Y:=hid (U0.out HU.out)
   go_wp2_with fail
   go_ret
   exact⟨by rw[Y.out];rfl,BW.out⟩
end
theorem yoi:(Tryz.prog.info? 87).map (fun i=>(i.zero,i.size,i.bytes))=some (some (.agg #[.string ⟨#[]⟩,.int .i64 0,.int .i64 0]),3,32):=by kernel_rfl
theorem yiy(T:List (List UInt8)):(mrk (T.take 0)).length=0∧zdm (mrk (T.take 0))=[]:=by
 have h:mrk (T.take 0)=[]:=by rw[List.take_zero];unfold mrk;rfl
 rw[h]
 exact⟨rfl,by unfold zdm;rfl⟩
theorem yiz(l:List PMk)(m:PMk):zdm (l++[m])=zdm l++[.string (bs m.n),.int .i64 m.N,.int .i64 (m.S:Int)]:=by unfold zdm PMk.rvals;simp
section
variable{w0 w w':World}{B mb:Nat}{A:DmA}{s:SP}
attribute [local irreducible] mrk zas rdM zn6 zax SP.far
theorem ydq(nm:List UInt8)(n:Nat)(v:Value)(h:DmAt w0 w B mb A s)(hI:SInv s)(hv:w.ownsRow B 9 1 v n (zbw [[102,97,114],nm]))(hn:nm.length≤1000):
  Calls Tryz.prog 14 #[.pointer (some ⟨mb,0,none⟩),v] w (DAns w0 w B mb (s.far nm)):=by
 obtain⟨ad,c,rfl,rfl,hb,g⟩:=zbk hv (by simp)
 have d0:=g 0 _ rfl
 have d1:=g 1 _ rfl
 rw[zdy] at d0
 rw[zlc] at d1
 have HX:=hid h
 have HB:=hI.tpb
 have HQ:Hid (s.far nm=(s,Lib.decDigits (zn6 nm (zax s.tt nm) (mrk (zas s.tp.b).1)).toNat,0)):=hid (by unfold SP.far SP.marks mrk;rfl)
 rw[HQ.out]
 have c3:=h.cs.1.2.2.2
 have t0:w.cell? ⟨A.tb,0,none⟩=some (.string (bs s.tp.b)):=by simp[World.cell?,h.tp.cells]
 have CS:=hid (fun(w':World)(b:Below w.heap.size w w')=>(h.below b).cs.1.2.1)
 have D1:=hid (fun(w':World)(b:Below w.heap.size w w')=>(b.cell (World.block_lt_of_cell? w _ d1)).trans d1)
 have RD:=hid (zjk s.tp.b w (by omega))
 have MR:=hid (fun(x:List UInt8)(hx:x.length≤20000)(w':World)=>zp8 x w' (by omega))
 have GT:=hid (fun(w':World)(b:Below w.heap.size w w')=>(show Calls Tryz.prog 23 #[A.vt,.string (bs nm)] w' fun e w2=>e=.returned (.tuple #[.string (bs (zax s.tt nm)),.bool (zaq s.tt nm).isSome])∧Below w'.heap.size w' w2 from(by unfold zax;exact zhq s.tt A.vt nm w' (SliceIs.ownedK (h.below b).tt))))
 have LT:=zig hI.tt nm
 have FB:=ygr nm (zax s.tt nm) (mrk (zas s.tp.b).1)
 have CN:(zas s.tp.b).1.length≤1048576:=by
  have a:=zhi s.tp.b
  have b:=zfk s.tp.b
  omega
 have MZ:=hid yiy
 have EA:=hid (zom _ s.tp.b (Nat.le_refl _))
 have FR:=hid (fun v (w':World) hl=>yi0 (mrk (zas s.tp.b).1) v nm (zax s.tt nm) w' hl (by omega))
 obtain⟨ta,tc,ht⟩:=zab h.tt
 obtain⟨i0,hi,hz0,hz1,hz2⟩:=info_parts yoi
 generalize (zaq s.tt nm).isSome=gb at *
 generalize zax s.tt nm=dt at *
 obtain⟨z,hz⟩:∃z:Nat,zn6 nm dt (mrk (zas s.tp.b).1)=z:=⟨(zn6 nm dt (mrk (zas s.tp.b).1)).toNat,by omega⟩
 rw[hz] at FR FB ⊢
 rw[Int.toNat_natCast]
 have DE:=hid (fun(w':World)=>zbt z w' (by omega))
 rw[ht] at CS GT
 generalize s.tt.length=tl at *
 generalize (zas s.tp.b).2=rn at *
 generalize (zas s.tp.b).1=T at *
 clear h hI hv hb g HQ hz ht
 have k0:=zbj [102,97,114] [100,114,111,112] (by decide)
 have k1:=zbj [102,97,114] [108,105,115,116] (by decide)
 have k2:=zbj [102,97,114] [112,108,97,110] (by decide)
 have k3:=zbj [102,97,114] [111,112,101,110] (by decide)
 have k4:=zc3 [102,97,114] [102,97,114] (by decide)
 go_enter Tryz.func14,Tryz.ntmps14
 go_wp2_with fail
 refine RD.out.mono ?_
 rintro e w2⟨r,rfl,hr,b2⟩
 have B2:=hid b2
 have HR:=hid hr
 obtain⟨ra,rc,rfl⟩:=zab hr
 clear RD hr b2 c3 t0 d0 d1
 go_wp2_with fail
 go_loopw [20,21,22,23] (fun o i _ _ wr=>∃j:Nat,i=.int .i64 j∧j≤T.length∧wr.ownsRow w2.heap.size 87 3 o (mrk (T.take j)).length (zdm (mrk (T.take j)))∧Below w2.heap.size w2 wr) (fun _ i _ _ _=>T.length - (intOf i).toNat)
 case atStart=>exact⟨0,rfl,by omega,by rw[(MZ.out T).1,(MZ.out T).2];exact World.ownsRow_nil _ _ _ _,Below.refl _ _⟩
 case round=>
  obtain⟨j,rfl,hj,hown,bel⟩:=hrel
  have BW:=hid bel
  have BA:=hid (zaa B2.out bel)
  have HO:=hid hown
  by_cases hlt:j<T.length
  ·have hltI:(j:Int)<T.length:=by omega
   obtain⟨s0',n0',c0',e1,_,_,_,g1⟩:=((SliceIs.ownedK HR.out).below bel).get
   cases e1
   obtain⟨ad',rfl,d0⟩:=g1 _ _ (zgp T j hlt)
   have x1:(0:Int)≤j:=by omega
   have x2:(j:Int).toNat=j:=by omega
   have KK:=hid (show j+1≤T.length by omega)
   have NX:=hid (show mrk (T.take (j+1))=if (rdM T[j]).2=0 then mrk (T.take j)++[(rdM T[j]).1] else mrk (T.take j) by rw[List.take_succ_eq_append_getElem hlt];exact zxu _ _)
   have ML:=ye8 (T.take j)
   rw[List.length_take] at ML
   have MR1:=hid (MR.out T[j] (EA.out _ (List.getElem_mem _)) wr)
   generalize T[j]=x at d0 NX MR1
   obtain⟨va,vc,rfl⟩:=zab hown
   clear hown bel g1 MR EA
   generalize hm:(rdM x).1=m at *
   generalize hc:(rdM x).2=c at *
   unfold PMk.rval at MR1
   by_cases h0:c=0
   ·subst h0
    rw[if_pos rfl] at NX
    have HN1:Hid ((mrk (T.take j)).length+1≤maxLen):=by show _≤_;unfold maxLen;omega
    have HN2:Hid (((mrk (T.take j)).length+1) * 32≤140737488355328):=by show _≤_;omega
    generalize mrk (T.take j)=M at *
    clear hm hc
    go_wp2_with fail
    refine MR1.out.mono ?_
    rintro e w3⟨rfl,b3⟩
    have BX:=hid (zaa BW.out b3)
    have BX2:=hid (zaa BA.out b3)
    have HO3:=hid (zad HO.out b3)
    clear b3 MR1 HO d0
    have HSZ:=hid BX.out.size
    have MV:=hid (yiz M m)
    have ML2:=hid (show(M++[m]).length=M.length+1 by simp)
    go_wp2_with (at_builtin;refine Hid.out ?_)
    refine hid ?_
    (refine wpList_append_own _ rfl _ _ 86 rfl w2.heap.size 87 i0 _ 3 32 Tryz.underlying86 hi hz0 hz1 hz2 rfl (by decide) _ _ _ rfl ((HO3.out.alloc _).alloc _) ⟨w3.heap.size+1,0,none⟩ 1 1 [.string (bs m.n),.int .i64 m.N,.int .i64 (m.S:Int)] rfl rfl (zl6 (zn3 _ _ _)) (fun u hu=>by simp at hu;rcases hu with rfl|rfl|rfl<;>rfl) HN1.out HN2.out (by have:=HSZ.out;simp;omega) ?_;intro v' w5 hown5 hgrow _;have HO5:=hid hown5;have B5:=hid (((BX.out.alloc HSZ.out _).alloc (by have:=HSZ.out;simp;omega) _).grown hgrow (by have:=HSZ.out;simp;omega) (fun j hj=>(HO3.out.lt j hj).1));clear hown5 hgrow)
    go_wp2_with fail
    go_roundw
    case rel=>exact⟨j+1,by go_num,KK.out,by rw[NX.out,MV.out,ML2.out];exact HO5.out,B5.out⟩
    case measure=>have:=KK.out;simp[intOf];omega
   ·rw[if_neg h0] at NX
    have h0I:¬((c:Nat):Int)=0:=by omega
    clear hm hc
    go_wp2_with fail
    refine MR1.out.mono ?_
    rintro e w3⟨rfl,b3⟩
    have BX:=hid (zaa BW.out b3)
    have HO3:=hid (zad HO.out b3)
    clear b3 MR1 HO d0
    go_wp2_with fail
    go_roundw
    case rel=>exact⟨j+1,by go_num,KK.out,by rw[NX.out];exact HO3.out.alloc _,BX.out.alloc BX.out.size _⟩
    case measure=>have:=KK.out;simp[intOf];omega
  ·have hltI:¬(j:Int)<T.length:=by omega
   obtain rfl:j=T.length:=by omega
   rw[List.take_length] at hown HO
   obtain⟨va,vc,hva⟩:=zab hown
   subst hva
   clear hown bel MR EA
   have BD:=hid (Below.drew BA.out)
   have GT1:=hid (GT.out _ BD.out)
   have S0:=And.intro (CS.out _ BA.out) (D1.out _ BA.out)
   have S1:=And.intro (CS.out _ BD.out) (D1.out _ BD.out)
   have KS:=hid (fun(W:World)(bb:Below wr.drew.heap.size wr.drew W)=>And.intro (CS.out _ (zaa BD.out bb)) (D1.out _ (zaa BD.out bb)))
   clear GT
   go_wp2_with fail
   go_region_held3 (fun X=>X.cell? ⟨mb,1,none⟩=some (.slice ta tl tc)∧X.cell? ⟨ad.block,ad.off+1,none⟩=some (.string (bs nm))) (first|exact S1|exact S0|exact KS.out _ (by assumption)) ((go_at_call 23;refine GT1.out.mono ?_;rintro e w3⟨rfl,b3⟩))
   have B3:=hid (zaa BD.out b3)
   have HO3:=hid (zad HO.out (zaa (Below.drew (Below.refl _ _)) b3))
   have FR1:=hid (FR.out _ w3 (SliceIs.ownedK HO3.out))
   clear S0 S1 KS
   have d1:=D1.out _ B3.out
   clear b3 GT1 FR
   go_wp2_with fail
   refine FR1.out.mono ?_
   rintro e w4⟨rfl,b4⟩
   have B4:=hid (zaa B3.out b4)
   have DE1:=hid (DE.out w4)
   clear b4 FR1 d1 DE
   go_wp2_with fail
   refine DE1.out.mono ?_
   rintro e w5⟨rfl,b5⟩
   have B5:=hid (zaa B4.out b5)
   clear b5 DE1
   go_wp2_with fail
   go_returns
   exact DAns.same HX.out B5.out rfl
end
end Go.Proofs.YtakhkcaihhpehaaGreatDoor
