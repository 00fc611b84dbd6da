/- Texts of one proof, one behind the other: ScrFar, ScrSend. -/
import Derived.Test.YtakhkcaihhpehaaGreatDoorB35
import Derived.Test.YtakhkcaihhpehaaGreatDoorB36
import Derived.Test.YtakhkcaihhpehaaGreatDoorB29
import Derived.Test.YtakhkcaihhpehaaGreatDoorB34
namespace Go.Proofs.YtakhkcaihhpehaaGreatDoor
open Go.RowKit
open Lib (hid)
set_option linter.unusedVariables false
set_option maxRecDepth 100000
set_option maxHeartbeats 51200000
def mrk(l:List (List UInt8)):List PMk:=(l.filter fun s=>(rdM s).2==0).map fun s=>(rdM s).1
theorem zn3(w:World)(o1 o2:Obj):((w.alloc o1).alloc o2).heap[w.heap.size+1]?=some o2:=by
 have h:=heap_alloc_new (w.alloc o1) o2
 rwa [show(w.alloc o1).heap.size=w.heap.size+1 by simp] at h
theorem zxu(l:List (List UInt8))(x:List UInt8):mrk (l++[x])=if (rdM x).2=0 then mrk l++[(rdM x).1] else mrk l:=by
 unfold mrk
 rw[List.filter_append,List.map_append]
 by_cases h:(rdM x).2=0
 ·rw[if_pos h,List.filter_cons_of_pos (by simp[h])];rfl
 ·rw[if_neg h,List.filter_cons_of_neg (by simp[h])];simp
theorem yju(T:List (List UInt8)):(mrk (T.take 0)).length=0∧zd5 (mrk (T.take 0))=[]:=by
 have h:mrk (T.take 0)=[]:=by rw[List.take_zero];unfold mrk;rfl
 rw[h]
 exact⟨rfl,by unfold zd5;rfl⟩
theorem ye8(l:List (List UInt8)):(mrk l).length≤l.length:=by unfold mrk;rw[List.length_map];exact List.length_filter_le _ _
theorem zom:∀(n:Nat)(b:List UInt8),b.length≤n→∀x∈(zas b).1,x.length≤20000:=by
 intro n
 induction n with
 | zero=>
  intro b hn x hx
  have hc:=zhi b
  have hl:=zfk b
  have h0:(zas b).1=[]:=List.eq_nil_of_length_eq_zero (by omega)
  rw[h0] at hx
  cases hx
 | succ n ih=>
  intro b hn x hx
  cases ho:zkg b with
  | none=>rw[ze8 ho] at hx;cases hx
  | some s=>
   have hp:=zh2 s
   rw[zh4 ho] at hx
   rcases List.mem_cons.1 hx with rfl|hx
   ·exact zxo ho
   ·exact ih (b.drop (zc9 s).length) (by rw[List.length_drop];omega) x hx
section
variable{Q:Guest}{E:Nat→Addr}{w0 w w':World}{pb k:Nat}{A:PlA}{s:SP}
attribute [local irreducible] mrk zas rdM zn6 zax SP.far
theorem yjk(nm:List UInt8)(v:Value)(h:PlAt Q w0 w pb A s k)(hI:SInv s)(hE:SEnv E w0)(hv:SliceIs w v 1 [.string (bs nm)]):
  Calls Tryz.prog 76 #[.pointer (some ⟨pb,0,none⟩),v] w (Ans Q E w0 pb k (s.far nm)):=by
 obtain⟨s0,m0,c0,rfl,hm0,hm1,hm2,g1⟩:=hv.get
 obtain⟨ad,rfl,d0⟩:=g1 0 _ rfl
 rw[zdy] at d0
 have hm0:m0=1:=by simpa using hm0.symm
 subst hm0
 have HX:=hid h
 have HB:=hI.tpb
 have HQ:Hid (s.far nm=(s,Lib.decDigits (zn6 nm (zax s.tt nm) (mrk (zas s.tp.b).1)).toNat,0)):=hid (by unfold SP.far SP.marks mrk;rfl)
 rw[HQ.out]
 have CS:=hid (fun(w':World)(b:Below w.heap.size w w')=>(h.below b).cs.1.2)
 have D0:=hid (fun(w':World)(b:Below w.heap.size w w')=>(b.cell (World.block_lt_of_cell? w _ d0)).trans d0)
 have BY:=hid ((yid h.tp).mono (fun e w2 h=>And.intro h.1 h.2.symm))
 have RD:=hid (fun(w':World)(b:Below w.heap.size w w')=>zw8 E s.tp.b w' (hE.lib.below (zaa h.bel b)) (by omega))
 have MR:=hid (fun(x:List UInt8)(hx:x.length≤20000)(w':World)(b:Below w.heap.size w w')=>yho E x w' (hE.lib.below (zaa h.bel b)) (by omega) (hE.err.e1.below (zaa h.bel b)) (hE.err.e2.below (zaa h.bel b)) (hE.err.e5.below (zaa h.bel b)))
 have GT:=hid (fun(w':World)(b:Below w.heap.size w w')=>(show Calls Tryz.prog 96 #[A.vt,.string (bs nm)] w' fun e w2=>e=.returned (.tuple #[.string (bs (zax s.tt nm)),.bool (zaq s.tt nm).isSome])∧Below w'.heap.size w' w2 from(by unfold zax;exact zen s.tt A.vt nm w' (SliceIs.ownedK (h.below b).tt))))
 have LT:=zig hI.tt nm
 have FB:=ygr nm (zax s.tt nm) (mrk (zas s.tp.b).1)
 have IT:=hid (fun(x:Nat)(hx:x≤1000)(w':World)(b:Below w.heap.size w w')=>ze4 E x w' (hE.lib.below (zaa h.bel b)) (by omega))
 have CN:(zas s.tp.b).1.length≤1048576:=by
  have a:=zhi s.tp.b
  have b:=zfk s.tp.b
  omega
 have MZ:=hid yju
 have EA:=hid (zom _ s.tp.b (Nat.le_refl _))
 have FR:=hid (fun v (w':World) hl=>yln (mrk (zas s.tp.b).1) v nm (zax s.tt nm) w' hl (by omega))
 obtain⟨ta,tc,ht⟩:=zab h.tt
 have c4:=h.cs.1.2.2.2
 have HTL:=h.tt.1
 obtain⟨i0,hi,hz0,hz1,hz2⟩:=info_parts yrb
 generalize (zaq s.tt nm).isSome=gb at *
 generalize zax s.tt nm=dt at *
 obtain⟨z,hz⟩:∃z:Nat,zn6 nm dt (mrk (zas s.tp.b).1)=z:=⟨(zn6 nm dt (mrk (zas s.tp.b).1)).toNat,by omega⟩
 rw[hz] at FR FB ⊢
 generalize A.vt=vt at *
 subst ht
 generalize (zas s.tp.b).2=rn at *
 generalize (zas s.tp.b).1=T at *
 clear h hI hE hv g1 HQ HTL hz
 go_enter Tryz.func76,Tryz.ntmps76
 go_wp2_with fail
 refine BY.out.mono ?_
 rintro e w1⟨rfl,rfl⟩
 go_wp2_with fail
 refine(RD.out _ (Below.refl _ _)).mono ?_
 rintro e w2⟨r,rfl,hr,b2⟩
 have B2:=hid b2
 have HR:=hid hr
 obtain⟨ra,rc,rfl⟩:=zab hr
 clear BY RD hr b2 c4 d0
 go_wp2_with fail
 go_loopw [8,10,11,12,26] (fun o _ _ _ i wr=>∃j:Nat,i=.int .i64 j∧j≤T.length∧wr.ownsRow w2.heap.size 196 3 o (mrk (T.take j)).length (zd5 (mrk (T.take j)))∧Below w2.heap.size w2 wr) (fun _ _ _ _ i _=>T.length - (intOf i).toNat)
 case atStart=>exact⟨0,rfl,by omega,by rw[(MZ.out T).1,(MZ.out T).2];exact World.ownsRow_nil _ _ _ _,Below.refl _ _⟩
 case round=>
  obtain⟨j,rfl,hj,hown,bel⟩:=hrel
  have BW:=hid bel
  have BA:=hid (zaa B2.out bel)
  have HO:=hid hown
  by_cases hlt:j<T.length
  ·have hltI:(j:Int)<T.length:=by omega
   obtain⟨s0',n0',c0',e1,_,_,_,g1⟩:=((SliceIs.ownedK HR.out).below bel).get
   cases e1
   obtain⟨ad',rfl,d0⟩:=g1 _ _ (zgp T j hlt)
   have x1:(0:Int)≤j:=by omega
   have x2:(j:Int).toNat=j:=by omega
   have KK:=hid (show j+1≤T.length by omega)
   have NX:=hid (show mrk (T.take (j+1))=if (rdM T[j]).2=0 then mrk (T.take j)++[(rdM T[j]).1] else mrk (T.take j) by rw[List.take_succ_eq_append_getElem hlt];exact zxu _ _)
   have ML:=ye8 (T.take j)
   rw[List.length_take] at ML
   have MR1:=hid (MR.out T[j] (EA.out _ (List.getElem_mem _)) _ BA.out)
   generalize T[j]=x at d0 NX MR1
   obtain⟨va,vc,rfl⟩:=zab hown
   clear hown bel g1 MR EA
   generalize hm:(rdM x).1=m at *
   generalize hc:(rdM x).2=c at *
   by_cases h0:c=0
   ·subst h0
    rw[if_pos rfl] at NX
    have HN1:Hid ((mrk (T.take j)).length+1≤maxLen):=by show _≤_;unfold maxLen;omega
    have HN2:Hid (((mrk (T.take j)).length+1) * 32≤140737488355328):=by show _≤_;omega
    generalize mrk (T.take j)=M at *
    rw[zaj] at MR1
    unfold PMk.val at MR1
    clear hm hc
    go_wp2_with fail
    refine MR1.out.mono ?_
    rintro e w3⟨rfl,b3⟩
    have BX:=hid (zaa BW.out b3)
    have BX2:=hid (zaa BA.out b3)
    have HO3:=hid (zad HO.out b3)
    clear b3 MR1 HO d0
    have HSZ:=hid BX.out.size
    have MV:=hid (show zd5 (M++[m])=zd5 M++[.string (bs m.n),.int .i64 m.N,.int .u32 (m.S:Int)] from zsw M m)
    have ML2:=hid (show(M++[m]).length=M.length+1 by simp)
    go_wp2_with (at_builtin;refine Hid.out ?_)
    refine hid ?_
    (refine wpList_append_own _ rfl _ _ 198 rfl w2.heap.size 196 i0 _ 3 32 Tryz.underlying198 hi hz0 hz1 hz2 rfl (by decide) _ _ _ rfl ((HO3.out.alloc _).alloc _) ⟨w3.heap.size+1,0,none⟩ 1 1 [.string (bs m.n),.int .i64 m.N,.int .u32 (m.S:Int)] rfl rfl (zl6 (zn3 _ _ _)) (fun u hu=>by simp at hu;rcases hu with rfl|rfl|rfl<;>rfl) HN1.out HN2.out (by have:=HSZ.out;simp;omega) ?_;intro v' w5 hown5 hgrow _;have HO5:=hid hown5;have B5:=hid (((BX.out.alloc HSZ.out _).alloc (by have:=HSZ.out;simp;omega) _).grown hgrow (by have:=HSZ.out;simp;omega) (fun j hj=>(HO3.out.lt j hj).1));clear hown5 hgrow)
    go_wp2_with fail
    go_roundw
    case rel=>exact⟨j+1,by go_num,KK.out,by rw[NX.out,MV.out,ML2.out];exact HO5.out,B5.out⟩
    case measure=>have:=KK.out;simp[intOf];omega
   ·rw[if_neg h0] at NX
    rw[za9 E h0] at MR1
    unfold PMk.val at MR1
    unfold za0 at MR1
    clear hm hc
    go_wp2_with fail
    refine MR1.out.mono ?_
    rintro e w3⟨rfl,b3⟩
    have BX:=hid (zaa BW.out b3)
    have HO3:=hid (zad HO.out b3)
    clear b3 MR1 HO d0
    go_wp2_with fail
    go_roundw
    case rel=>exact⟨j+1,by go_num,KK.out,by rw[NX.out];exact HO3.out.alloc _,BX.out.alloc BX.out.size _⟩
    case measure=>have:=KK.out;simp[intOf];omega
  ·have hltI:¬(j:Int)<T.length:=by omega
   obtain rfl:j=T.length:=by omega
   rw[List.take_length] at hown HO
   obtain⟨va,vc,hva⟩:=zab hown
   subst hva
   clear hown bel MR EA
   have cc:=(CS.out _ BA.out).1
   have d0:=D0.out _ BA.out
   have BD:=hid (Below.drew BA.out)
   have GT1:=hid (GT.out _ BD.out)
   have S0:=And.intro cc d0
   have S1:=And.intro (CS.out _ BD.out).1 (D0.out _ BD.out)
   have KS:=hid (fun(W:World)(bb:Below wr.drew.heap.size wr.drew W)=>And.intro (CS.out _ (zaa BD.out bb)).1 (D0.out _ (zaa BD.out bb)))
   clear GT
   go_wp2_with fail
   go_region_held3 (fun X=>X.cell? ⟨pb,1,none⟩=some (.slice ta s.tt.length tc)∧X.cell? ad=some (.string (bs nm))) (first|exact S1|exact S0|exact KS.out _ (by assumption)) ((go_at_call 96;refine GT1.out.mono ?_;rintro e w3⟨rfl,b3⟩))
   have B3:=hid (zaa BD.out b3)
   have HO3:=hid (zad HO.out (zaa (Below.drew (Below.refl _ _)) b3))
   have FR1:=hid (FR.out _ w3 (SliceIs.ownedK HO3.out))
   clear S0 S1 KS d0 cc
   have d0:=D0.out _ B3.out
   clear b3 GT1 FR
   go_wp2_with fail
   refine FR1.out.mono ?_
   rintro e w4⟨rfl,b4⟩
   have B4:=hid (zaa B3.out b4)
   have IT1:=hid (IT.out z (by omega) _ B4.out)
   clear b4 FR1 d0
   go_wp2_with fail
   refine IT1.out.mono ?_
   rintro e w5⟨rfl,b5⟩
   have B5:=hid (zaa B4.out b5)
   clear b5 IT1
   go_wp2_with fail
   go_ret2
   exact⟨_,A,k,rfl,zfv E _,HX.out.below B5.out,by omega⟩
end
theorem zxq(ws:List (List UInt8)):SP.nums (ws.take 0)=some []:=rfl
theorem yqk(fr tt:List PF):sx fr tt []=XS.start fr tt:=by unfold sx;simp only[List.foldl_nil]
section
variable{Q:Guest}{E:Nat→Addr}{w0 w w':World}{pb k:Nat}{A:PlA}{s:SP}
attribute [local irreducible] SP.send SP.sent sx SP.nums nmL
theorem yd3(ws:List (List UInt8))(v:Value)(h:PlAt Q w0 w pb A s k)(hI:SInv s)(hE:SEnv E w0)(hv:SliceIs w v 1 (zbw ws))(hl:ws.length≤1000)(hw:∀x∈ws,x.length≤1000)(hlt:∀x∈ws,∀n,nmL 6 x=some n→n≤1000000):
  Calls Tryz.prog 72 #[.pointer (some ⟨pb,0,none⟩),v] w (Ans Q E w0 pb k (s.send ws)):=by
 obtain⟨s0,m0,c0,rfl,hm0,hm1,hm2,g1⟩:=hv.get
 have hm0:m0=ws.length:=by unfold zbw at hm0;simpa using hm0.symm
 subst hm0
 obtain⟨ca,cb⟩:=h.cs
 have BD:Below w.heap.size w w.drew:=Below.drew (Below.refl _ w)
 have h:=h.below BD
 have hv:=hv.below BD
 have HX:=hid h
 have HI:=hid hI
 have HV:=hid hv
 have HE:=hid (hE.err.below h.bel)
 have HL:=hid (fun(w':World)(b:Below w.drew.heap.size w.drew w')=>hE.lib.below (zaa h.bel b))
 have E1:=hid (fun(w':World)(b:Below w.drew.heap.size w.drew w')=>show w'.cell? ⟨1,0,none⟩=some (za0 (E 1)) from hE.err.e1.below (zaa h.bel b))
 have XN:=hid (yh6 (E:=E) s.fr s.tt A.vf A.vt w.drew (SliceIs.ownedK h.fr) (SliceIs.ownedK h.tt) hI.fr.wf hI.tt.wf HE.out.e2 HE.out.e4 HE.out.e5 HE.out.e8 HE.out.e9)
 have NU:=hid (fun(d:List UInt8)(hd:d∈ws)(w':World)(b:Below w.drew.heap.size w.drew w')=>zd4 E 6 d w' (HL.out w' b) (by omega) (by have:=hw d hd;omega))
 have HLT:=hid hlt
 have Q1:=hid (fun hx=>ycy (s:=s) (ws:=ws) hx)
 have Q2:=hid (fun l hx=>ycw (s:=s) (ws:=ws) (l:=l) hx)
 have HP:=hid (fun(w':World)(b:Below w.drew.heap.size w.drew w')(l:List PF)(base:Nat)(r:Value)(hr:w'.ownsRow base 126 2 r l.length (zah l))(hb:w.drew.heap.size≤base)=>(h.below b).setTo hr (Nat.le_trans h.bel.size hb) (h.fresh hr hb))
 have CT:=hid (fun(w':World)(b:Below w.drew.heap.size w.drew w')=>(h.below b).cs)
 have S1:=And.intro h.cs.1.1 h.cs.1.2.1
 obtain⟨c0',c1',c2',c3'⟩:=ca
 have S0:=And.intro c0' c1'
 clear h hI hE hv g1 hw hlt BD c2' c3' cb
 go_enter Tryz.func72,Tryz.ntmps72
 go_wp2_with fail
 go_region_held3 (fun X=>X.cell? ⟨pb,0,none⟩=some A.vf∧X.cell? ⟨pb,1,none⟩=some A.vt) (first|exact S1|exact S0|exact S3) ((go_at_call 107;refine XN.out.mono ?_;rintro e w1⟨xb,B,rfl,hA⟩;have S3:=And.intro (CT.out _ hA.rest.bel).1.1 (CT.out _ hA.rest.bel).1.2.1))
 have HA:=hid hA
 clear hA XN S0 S1 S3 c0' c1'
 go_wp2_with fail
 go_loopw [9,10,11,29] (fun _ _ _ i wr=>∃(j:Nat)(l:List Nat)(B':XA),i=.int .i64 j∧j≤ws.length∧SP.nums (ws.take j)=some l∧XAt w.drew wr xb B' (sx s.fr s.tt l)) (fun _ _ _ i _=>ws.length - (intOf i).toNat)
 case atStart=>exact⟨0,[],B,rfl,by omega,zxq ws,by rw[yqk];exact HA.out⟩
 case round=>
  obtain⟨j,l,B',rfl,hj,hn,hA⟩:=hrel
  have HA1:=hid hA
  have BA:=hid hA.rest.bel
  have hll:=zqs hn
  rw[List.length_take] at hll
  have HN:=hid hn
  clear hA hn HA
  by_cases hlt:j<ws.length
  ·have hltI:(j:Int)<ws.length:=by omega
   obtain⟨s0',n0',c0',e1,_,_,_,g1⟩:=(HV.out.below BA.out).get
   cases e1
   obtain⟨ad,rfl,d0⟩:=g1 _ _ (zgp ws j hlt)
   have x1:(0:Int)≤j:=by omega
   have x2:(j:Int).toNat=j:=by omega
   have KK:=hid (show j+1≤ws.length by omega)
   have NU1:=NU.out ws[j] (List.getElem_mem _) wr BA.out
   cases hx:nmL 6 ws[j] with
   | none=>
    have HQ:=hid (Q1.out (zmz hlt hx))
    simp only[zn4,hx] at NU1
    have NU2:=hid NU1
    generalize ws[j]=x at *
    clear hx g1 NU Q1 Q2 HP NU1
    go_wp2_with fail
    refine NU2.out.mono ?_
    rintro e w1⟨⟨v,rfl,hv⟩,b1⟩
    have BB:=hid (zaa BA.out b1)
    have ce:=E1.out _ BB.out
    clear b1 d0
    go_wp2_with fail
    go_quiet (fail)
    go_wp2_with fail
    go_ret2
    rw[HQ.out]
    exact⟨_,A,k,by rw[bs_nil];rfl,zb1 E _ (by simp),HX.out.below (zac BB.out nq),by omega⟩
   | some n=>
    have hn6:=HLT.out ws[j] (List.getElem_mem _) n hx
    have NT:=hid (zsr hlt HN.out hx)
    simp only[zn4,hx] at NU1
    have NU2:=hid NU1
    have DO:=hid (fun(w':World)(B':XA)(h:XAt w.drew w' xb B' (sx s.fr s.tt l))=>sx_do (E:=E) n (by omega) HI.out.fr HI.out.tt (by omega) HE.out h)
    generalize ws[j]=x at *
    clear hx g1 NU Q1 Q2 HP NU1 HN
    go_wp2_with fail
    refine NU2.out.mono ?_
    rintro e w1⟨⟨v,rfl,hv⟩,b1⟩
    obtain rfl:=hv n rfl
    have DO1:=hid (DO.out _ _ (HA1.out.below b1))
    clear b1 d0 DO HA1 hv
    go_wp2_with fail
    refine DO1.out.mono ?_
    rintro e w2⟨rfl,B2,hA2⟩
    have HA2:=hid hA2
    clear hA2 DO1
    go_wp2_with fail
    go_roundw
    case rel=>exact⟨j+1,l++[n],B2,by go_num,KK.out,NT.out,HA2.out⟩
    case measure=>have:=KK.out;simp[intOf];omega
  ·have hltI:¬(j:Int)<ws.length:=by omega
   obtain rfl:j=ws.length:=by omega
   have hn:=HN.out
   rw[List.take_length] at hn
   have HQ:=hid (Q2.out l hn)
   have FN:=hid (yql (E:=E) HI.out.fr HI.out.tt (by omega) HE.out HA1.out)
   have SM:=hid (zlk HI.out.fr HI.out.tt l).1
   have TO:=hid (fun(w':World)(B':XA)(h:XAt w.drew w' xb B' (XS.fin zdh (sx s.fr s.tt l)))=>ym5 h (by have:=SM.out.wf.few;rw[ycu] at this;omega))
   clear hn HN Q1 Q2 NU HA1
   go_wp2_with fail
   refine FN.out.mono ?_
   rintro e w2⟨rfl,B2,hA2⟩
   have BA2:=hid hA2.rest.bel
   have TO1:=hid (TO.out _ _ hA2)
   clear hA2 FN TO
   go_wp2_with fail
   refine TO1.out.mono ?_
   rintro e w3⟨r,rfl,hr,b3⟩
   have BA3:=hid (zaa BA2.out b3)
   have P3:=hid (HP.out _ BA3.out (SP.sent s.fr s.tt l) _ r (by rw[ycu];exact hr) BA2.out.size)
   obtain⟨⟨k0,k1,k2,k3⟩,kf⟩:=CT.out _ BA3.out
   obtain⟨ra,rc,rfl⟩:=zab hr
   clear hr b3 TO1 HP k0 k2 k3
   go_wp2_with fail
   go_ret2
   rw[HQ.out]
   exact⟨_,_,k,by unfold zha bs;rfl,zfv E _,P3.out,by omega⟩
end
end Go.Proofs.YtakhkcaihhpehaaGreatDoor
