/- Texts of one proof, one behind the other: SignRead, Ops, Ops2, Maker. -/
import Derived.Test.YtakhkcaihhpehaaGreatDoorB11
import Derived.Test.YtakhkcaihhpehaaGreatDoorB06
import Derived.Test.YtakhkcaihhpehaaGreatDoorB04
import Derived.Test.YtakhkcaihhpehaaGreatDoorB01
import Derived.Laws.AppendOwnNone
namespace Go.Proofs.YtakhkcaihhpehaaGreatDoor
open Go.RowKit
open Lib (hid)
set_option linter.unusedVariables false
set_option maxRecDepth 100000
set_option maxHeartbeats 51200000
def zmm(l:List UInt8):Blk×List UInt8×Nat:=
 (⟨rnN l 0,rnN (rnR l 0) (rnC l 0),rnN (rnR (rnR l 0) (rnC l 0)) (rnC (rnR l 0) (rnC l 0)) % 4294967296⟩,
  rnR (rnR (rnR l 0) (rnC l 0)) (rnC (rnR l 0) (rnC l 0)),
  if rnC (rnR (rnR l 0) (rnC l 0)) (rnC (rnR l 0) (rnC l 0))=0∧4294967295<rnN (rnR (rnR l 0) (rnC l 0)) (rnC (rnR l 0) (rnC l 0)) then 1 else rnC (rnR (rnR l 0) (rnC l 0)) (rnC (rnR l 0) (rnC l 0)))
theorem zqe(l l1 l2:List UInt8)(c1 c2:Nat)(h1:rnR l 0=l1)(h2:rnC l 0=c1)(h3:rnR l1 c1=l2)(h4:rnC l1 c1=c2):
  zmm l=(⟨rnN l 0,rnN l1 c1,rnN l2 c2 % 4294967296⟩,rnR l2 c2,if rnC l2 c2=0∧4294967295<rnN l2 c2 then 1 else rnC l2 c2):=by
 subst h1 h2 h3 h4;rfl
theorem ydm(l:List UInt8)(h:(zmm l).2.2=0):(zmm l).2.1.length<l.length:=by
 have hi:=zqe l _ _ _ _ rfl rfl rfl rfl
 rw[hi] at h ⊢
 simp only[] at h ⊢
 split at h
 ·simp at h
 ·have h3:=zh0 h
  have h2:=zh0 h3.1
  have:=zq5 l (by have:=(zh0 (l:=l) (c:=0) h2.1).2;exact this)
  have e1:=(zhf l).2.1
  have l2:=zb5 (rnR l 0) (rnC l 0)
  have l3:=zb5 (rnR (rnR l 0) (rnC l 0)) (rnC (rnR l 0) (rnC l 0))
  rw[e1] at l2 l3 ⊢
  omega
def zg5:Nat→List UInt8→Nat→List Blk→List Blk×List UInt8×Nat
 | 0,l,c,out=>(out,l,c)
 | f+1,l,c,out=>if c=0 then zg5 f (zmm l).2.1 (zmm l).2.2 (out++[(zmm l).1]) else (out,l,c)
theorem zon(l:List UInt8)(c:Nat)(out:List Blk):zg5 0 l c out=(out,l,c):=rfl
theorem zzu(f:Nat)(l:List UInt8){c:Nat}(h:c≠0)(out:List Blk):zg5 f l c out=(out,l,c):=by
 cases f with
 | zero=>rfl
 | succ f=>simp[zg5,h]
theorem zml{f:Nat}(hf:0<f)(l:List UInt8)(out:List Blk):zg5 f l 0 out=zg5 (f - 1) (zmm l).2.1 (zmm l).2.2 (out++[(zmm l).1]):=by
 obtain⟨g,rfl⟩:∃g,f=g+1:=⟨f - 1,by omega⟩
 simp[zg5]
def rd0(L:List UInt8):List Blk×List UInt8×Nat:=zg5 (rnN (rnR L 0) (rnC L 0)) (rnR (rnR L 0) (rnC L 0)) (rnC (rnR L 0) (rnC L 0)) []
def zem(L:List UInt8):List Blk×Nat×Nat:=
 if zg6 (rd0 L).2.1 (rd0 L).2.2≠0 then ([],0,zg6 (rd0 L).2.1 (rd0 L).2.2)
 else if (chk (rd0 L).1 (rnN L 0)).1≠0 then ([],0,(chk (rd0 L).1 (rnN L 0)).1) else ((rd0 L).1,rnN L 0,0)
theorem zzn{L l:List UInt8}{c:Nat}{out:List Blk}(h:rd0 L=(out,l,c))(h1:zg6 l c≠0):zem L=([],0,zg6 l c):=by simp[zem,h,h1]
theorem zzo{L l:List UInt8}{c:Nat}{out:List Blk}(h:rd0 L=(out,l,c))(h1:zg6 l c=0)(h2:(chk out (rnN L 0)).1≠0):zem L=([],0,(chk out (rnN L 0)).1):=by simp[zem,h,h1,h2]
theorem zsa{L l:List UInt8}{c:Nat}{out:List Blk}(h:rd0 L=(out,l,c))(h1:zg6 l c=0)(h2:(chk out (rnN L 0)).1=0):zem L=(out,rnN L 0,0):=by simp[zem,h,h1,h2]
theorem ymg{L l1 l2:List UInt8}{c1 c2:Nat}(h1:rnR L 0=l1)(h2:rnC L 0=c1)(h3:rnR l1 c1=l2)(h4:rnC l1 c1=c2):rd0 L=zg5 (rnN l1 c1) l2 c2 []:=by subst h1 h2 h3 h4;rfl
attribute [irreducible] zmm zg5 rd0 zem
theorem ycl(E:Nat→Addr)(s:ByteArray)(w:World)(hs:s.size≤1000000000)(hT:Has E w 1)(hB:Has E w 2)(hF:Has E w 8):
  Calls Tryz.prog 218 #[.string s] w fun e w'=>∃v,e=.returned (.tuple #[v,.int .i64 (zem s.data.toList).2.1,ev E (zem s.data.toList).2.2])∧
   w'.ownsRow w.heap.size 138 3 v (zem s.data.toList).1.length (zba (zem s.data.toList).1)∧Below w.heap.size w w':=by
 obtain⟨i0,hi,hz0,hz1,hz2⟩:=info_parts zqy
 obtain⟨L,hL⟩:∃L,L=s.data.toList:=⟨_,rfl⟩
 have hLl:L.length=s.size:=by rw[hL];simp
 rw[←hL]
 have hsb:s=bs L:=by rw[hL,zoa]
 have hLb:L.length≤1000000000:=by omega
 clear hLl hL hs
 subst hsb
 have HB:=hid hB
 have HT:=hid hT
 have HFU:=hid hF
 obtain⟨l1,e1⟩:∃x,rnR L 0=x:=⟨_,rfl⟩
 obtain⟨c1,e2⟩:∃x,rnC L 0=x:=⟨_,rfl⟩
 obtain⟨l2,e3⟩:∃x,rnR l1 c1=x:=⟨_,rfl⟩
 obtain⟨c2,e4⟩:∃x,rnC l1 c1=x:=⟨_,rfl⟩
 have hr0:=ymg e1 e2 e3 e4
 have hl1:=zb5 L 0
 have hl2:=zb5 l1 c1
 rw[e1] at hl1
 rw[e3] at hl2
 have N1:=hid (fun b (w:World) h=>zcx E b L 0 w hLb h)
 have N2:=hid (fun b (w:World) h=>zcx E b l1 c1 w (by omega) h)
 rw[e1,e2] at N1
 rw[e3,e4] at N2
 have HR0:=hid hr0
 have hml:=zw7 l1 c1
 generalize rnN l1 c1=many at *
 generalize hsz:rnN L 0=size at *
 have HSZ:=hid hsz
 have HEZ:=hid (zaj E)
 clear e1 e2 e3 e4 hr0 hB hT hF hsz
 have R0:RAt E (w.alloc (.cells #[.string (bs L),.nilIface] 297)) w.heap.size L 0:=by unfold RAt;rw[zaj];exact heap_alloc_new _ _
 have b0:=zaf w (.cells #[.string (bs L),.nilIface] 297)
 go_enter Tryz.func218,Tryz.ntmps218
 go_wp2_with fail
 refine(N1.out _ _ R0 (HT.out.below b0) (HB.out.below b0)).mono ?_
 rintro e w1⟨rfl,R1,g1⟩
 have b1:=b0.grown g1 b0.size (fun k hk=>by cases hk;exact Nat.le_refl _)
 have hb:w.heap.size≤w.heap.size:=Nat.le_refl _
 clear R0 b0 g1
 go_wp2_with fail
 refine(N2.out _ _ R1 (HT.out.below b1) (HB.out.below b1)).mono ?_
 rintro e w2⟨rfl,R2,g2⟩
 have b2:=b1.grown g2 b1.size (fun k hk=>by cases hk;exact Nat.le_refl _)
 clear R1 b1 g2
 go_wp2_with fail
 go_loopw [9,8,10,11,12] (fun i o _ _ _ wr=>∃(k:Nat)(out:List Blk)(l:List UInt8)(c:Nat),i=.int .i64 k∧k≤many∧out.length=k∧out.length≤L.length+1∧(c=0→out.length+l.length≤L.length)∧l.length≤L.length∧
   rd0 L=zg5 (many - k) l c out∧RAt E wr w.heap.size l c∧wr.ownsRow (w.heap.size+1) 138 3 o k (zba out)∧Below w.heap.size w wr) (fun i _ _ _ _ _=>many - (intOf i).toNat)
 case atStart=>exact⟨0,[],l2,c2,rfl,by omega,rfl,by simp,fun _=>by simp;omega,by omega,HR0.out,R2,by rw[zgj];exact World.ownsRow_nil _ _ _ _,b2⟩
 case round=>
  clear R2 b2
  obtain⟨k,out,l,c,rfl,hk,hok,ho1,ho2,hll,hrd,R,hown,bel⟩:=hrel
  have HRD:=hid hrd
  have HOK:=hid hok
  have HO2:=hid ho2
  obtain⟨r0,r1⟩:=R.cs
  clear hrd hok ho2
  by_cases hgo:k<many∧c=0
  ·obtain⟨hlt,rfl⟩:=hgo
   have hltI:(k:Int)<many:=by omega
   rw[zaj] at r1
   obtain⟨m1,f1⟩:∃x,rnR l 0=x:=⟨_,rfl⟩
   obtain⟨d1,f2⟩:∃x,rnC l 0=x:=⟨_,rfl⟩
   obtain⟨m2,f3⟩:∃x,rnR m1 d1=x:=⟨_,rfl⟩
   obtain⟨d2,f4⟩:∃x,rnC m1 d1=x:=⟨_,rfl⟩
   obtain⟨m3,f5⟩:∃x,rnR m2 d2=x:=⟨_,rfl⟩
   obtain⟨d3,f6⟩:∃x,rnC m2 d2=x:=⟨_,rfl⟩
   have hblk:=zqe l m1 m2 d1 d2 f1 f2 f3 f4
   rw[f5,f6] at hblk
   have hstep:=HRD.out.trans (zml (by omega) l out)
   have hshort:=ydm l
   have hlm1:=zb5 l 0
   have hlm2:=zb5 m1 d1
   have hlm3:=zb5 m2 d2
   rw[f1] at hlm1
   rw[f3] at hlm2
   rw[f5] at hlm3
   have P1:=hid (fun b (w:World) h=>zcx E b l 0 w (by omega) h)
   have P2:=hid (fun b (w:World) h=>zcx E b m1 d1 w (by omega) h)
   have P3:=hid (fun b (w:World) h=>zcx E b m2 d2 w (by omega) h)
   rw[f1,f2] at P1
   rw[f3,f4] at P2
   rw[f5,f6] at P3
   rw[hblk] at hstep hshort
   simp only[] at hstep hshort
   generalize rnN l 0=x1 at *
   generalize rnN m1 d1=x2 at *
   generalize rnN m2 d2=x3 at *
   have HSTEP:=hid hstep
   have HSH:=hid hshort
   have KK:=hid (show k+1≤many∧many - (k+1)=many - k - 1 by omega)
   have HO3:=hid (HO2.out rfl)
   clear f1 f2 f3 f4 f5 f6 hblk hstep hshort
   have hsz0:=R.lt
   go_wp2_with fail
   refine(P1.out _ _ R (HT.out.below bel) (HB.out.below bel)).mono ?_
   rintro e v1⟨rfl,R1,g1⟩
   have bel1:=bel.grown g1 bel.size (fun k hk=>by cases hk;exact Nat.le_refl _)
   have hown1:=zbp hown (Nat.lt_succ_self _) g1
   clear R bel g1 hown r0 r1
   go_wp2_with fail
   refine(P2.out _ _ R1 (HT.out.below bel1) (HB.out.below bel1)).mono ?_
   rintro e v2⟨rfl,R2,g2⟩
   have bel2:=bel1.grown g2 bel1.size (fun k hk=>by cases hk;exact Nat.le_refl _)
   have hown2:=zbp hown1 (Nat.lt_succ_self _) g2
   clear R1 bel1 g2 hown1
   go_wp2_with fail
   refine(P3.out _ _ R2 (HT.out.below bel2) (HB.out.below bel2)).mono ?_
   rintro e v3⟨rfl,R3,g3⟩
   have bel3:=bel2.grown g3 bel2.size (fun k hk=>by cases hk;exact Nat.le_refl _)
   have hown3:=zbp hown2 (Nat.lt_succ_self _) g3
   clear R2 bel2 g3 hown2
   obtain⟨r0,r1⟩:=R3.cs
   have fz:=R3.fz 1
   have t1:v3.cell? ⟨1,0,none⟩=some (za0 (E 1)):=HT.out.below bel3
   unfold za0 at t1
   have hsz3:=R3.lt
   by_cases hd:d3=0
   ·subst hd
    rw[zaj] at r1
    by_cases hx:4294967295<x3
    ·have hxI:(4294967295:Int)<x3:=by omega
     have R4:=hid (R3.set1 1 _ (za9 E (c:=1) (by decide)).symm)
     unfold za0 at R4
     have hs:=HSTEP.out
     rw[if_pos ⟨rfl,hx⟩] at hs
     have HS:=hid hs
     clear hs HSTEP HSH
     have OWN:=hid (zbp hown3 (Nat.lt_succ_self _) (zap v3 w.heap.size 1 (.iface 338 (.pointer (some (E 1))))))
     have RR:=R4
     have HSZ3:=hid hsz3
     have BELX:=bel3.setCell (p:=⟨w.heap.size,1,none⟩) (Nat.le_refl _) (.iface 338 (.pointer (some (E 1))))
     have HM1:Hid (k+1≤maxLen):=by show _≤_;unfold maxLen;omega
     have HM2:Hid ((k+1) * 24≤140737488355328):=by show _≤_;have:=HOK.out;omega
     have HM3:Hid (w.heap.size+1≤((v3.setCell ⟨w.heap.size,1,none⟩ (.iface 338 (.pointer (some (E 1))))).alloc (.cells #[.int .i64 x1,.int .i64 x2,.int .u32 ((x3:Int) % 4294967296)] 138)).heap.size):=by show _≤_;have:=BELX.size;have:=HSZ3.out;simp;omega
     have NEWH:Hid (((v3.setCell ⟨w.heap.size,1,none⟩ (.iface 338 (.pointer (some (E 1))))).alloc (.cells #[.int .i64 x1,.int .i64 x2,.int .u32 ((x3:Int) % 4294967296)] 138)).heap[v3.heap.size]?=some (.cells #[.int .i64 x1,.int .i64 x2,.int .u32 ((x3:Int) % 4294967296)] 138 (0,0))):=by
      have h:=heap_alloc_new (v3.setCell ⟨w.heap.size,1,none⟩ (.iface 338 (.pointer (some (E 1))))) (.cells #[.int .i64 x1,.int .i64 x2,.int .u32 ((x3:Int) % 4294967296)] 138)
      have e:(v3.setCell ⟨w.heap.size,1,none⟩ (.iface 338 (.pointer (some (E 1))))).heap.size=v3.heap.size:=by simp
      rw[e] at h
      exact h
     go_wp2_with (at_builtin;refine wpList_append_own _ rfl _ _ 101 rfl (w.heap.size+1) 138 i0 _ 3 24 Tryz.underlying101 hi hz0 hz1 hz2 rfl (by decide) _ _ _ rfl (OWN.out.alloc _) ⟨v3.heap.size,0,none⟩ 1 1 [.int .i64 x1,.int .i64 x2,.int .u32 ((x3:Int) % 4294967296)] rfl rfl (ze7 NEWH.out) (fun u hu=>by simp at hu;rcases hu with rfl|rfl|rfl<;>rfl) HM1.out HM2.out HM3.out ?_;intro v' v5 hown' hgrow _)
     have bel5:=(BELX.alloc BELX.size (.cells #[.int .i64 x1,.int .i64 x2,.int .u32 ((x3:Int) % 4294967296)] 138)).grown hgrow (by have:=BELX.size;simp;omega) (fun j hj=>by have:=(OWN.out.lt j hj).1;omega)
     have hne:some w.heap.size≠Value.ownBlock u8:=fun e=>by have:=(OWN.out.lt _ e.symm).1;omega
     have R5:=(RAt.below RR.out (zaf _ (.cells #[.int .i64 x1,.int .i64 x2,.int .u32 ((x3:Int) % 4294967296)] 138))).grown hgrow hne
     have hcells:zba (out++[⟨x1,x2,x3 % 4294967296⟩])=zba out++[.int .i64 x1,.int .i64 x2,.int .u32 ((x3:Int) % 4294967296)]:=by
      rw[zdx,zdl];simp only[Blk.cells];simp
     go_roundw
     case rel=>exact⟨k+1,out++[⟨x1,x2,x3 % 4294967296⟩],m3,1,by go_num,KK.out.1,by simp[HOK.out],by have:=HO3.out;simp;omega,(fun h=>absurd h (by decide)),by omega,by rw[KK.out.2];exact HS.out,R5,by rw[hcells];exact hown',bel5⟩
     case measure=>simp[intOf];omega
    ·have hxI:¬(4294967295:Int)<x3:=by omega
     have hs:=HSTEP.out
     rw[if_neg (fun h=>hx h.2)] at hs
     have hs2:=HSH.out
     rw[if_neg (fun h=>hx h.2)] at hs2
     have HS:=hid hs
     have HS2:=hid (hs2 rfl)
     clear hs hs2 HSTEP HSH
     have OWN:=hid hown3
     have RR:=hid R3
     have HSZ3:=hid hsz3
     have hx3:x3 % 4294967296=x3:=by omega
     have HX3:=hid hx3
     clear hx3
     have HM1:Hid (k+1≤maxLen):=by show _≤_;unfold maxLen;omega
     have HM2:Hid ((k+1) * 24≤140737488355328):=by show _≤_;have:=HOK.out;omega
     have HM3:Hid (w.heap.size+1≤(v3.alloc (.cells #[.int .i64 x1,.int .i64 x2,.int .u32 (x3:Int)] 138)).heap.size):=by show _≤_;have:=bel3.size;have:=HSZ3.out;simp;omega
     go_wp2_with (at_builtin;refine wpList_append_own _ rfl _ _ 101 rfl (w.heap.size+1) 138 i0 _ 3 24 Tryz.underlying101 hi hz0 hz1 hz2 rfl (by decide) _ _ _ rfl (OWN.out.alloc _) ⟨v3.heap.size,0,none⟩ 1 1 [.int .i64 x1,.int .i64 x2,.int .u32 (x3:Int)] rfl rfl (ze7 (heap_alloc_new _ _)) (fun u hu=>by simp at hu;rcases hu with rfl|rfl|rfl<;>rfl) HM1.out HM2.out HM3.out ?_;intro v' v5 hown' hgrow _)
     have bel5:=(bel3.alloc bel3.size (.cells #[.int .i64 x1,.int .i64 x2,.int .u32 (x3:Int)] 138)).grown hgrow (by have:=bel3.size;simp;omega) (fun j hj=>by have:=(OWN.out.lt j hj).1;omega)
     have hne:some w.heap.size≠Value.ownBlock u8:=fun e=>by have:=(OWN.out.lt _ e.symm).1;omega
     have R5:=(RAt.below RR.out (zaf _ (.cells #[.int .i64 x1,.int .i64 x2,.int .u32 (x3:Int)] 138))).grown hgrow hne
     have hcells:zba (out++[⟨x1,x2,x3 % 4294967296⟩])=zba out++[.int .i64 x1,.int .i64 x2,.int .u32 (x3:Int)]:=by
      rw[zdx,zdl];simp only[Blk.cells];rw[HX3.out]
     go_roundw
     case rel=>exact⟨k+1,out++[⟨x1,x2,x3 % 4294967296⟩],m3,0,by go_num,KK.out.1,by simp[HOK.out],by have:=HO3.out;simp;omega,(fun _=>by have:=HS2.out;have:=HO3.out;simp;omega),by omega,by rw[KK.out.2];exact HS.out,R5,by rw[hcells];exact hown',bel5⟩
     case measure=>simp[intOf];omega
   ·have hs:=HSTEP.out
    rw[if_neg (fun h=>hd h.1)] at hs
    have HS:=hid hs
    have HD:=hid hd
    have hev:=za9 E hd
    rw[hev] at r1
    unfold za0 at r1
    clear hs HSTEP HSH hd hev
    have OWN:=hid hown3
    have RR:=hid R3
    have HSZ3:=hid hsz3
    have HM1:Hid (k+1≤maxLen):=by show _≤_;unfold maxLen;omega
    have HM2:Hid ((k+1) * 24≤140737488355328):=by show _≤_;have:=HOK.out;omega
    have HM3:Hid (w.heap.size+1≤(v3.alloc (.cells #[.int .i64 x1,.int .i64 x2,.int .u32 ((x3:Int) % 4294967296)] 138)).heap.size):=by show _≤_;have:=bel3.size;have:=HSZ3.out;simp;omega
    go_wp2_with (at_builtin;refine wpList_append_own _ rfl _ _ 101 rfl (w.heap.size+1) 138 i0 _ 3 24 Tryz.underlying101 hi hz0 hz1 hz2 rfl (by decide) _ _ _ rfl (OWN.out.alloc _) ⟨v3.heap.size,0,none⟩ 1 1 [.int .i64 x1,.int .i64 x2,.int .u32 ((x3:Int) % 4294967296)] rfl rfl (ze7 (heap_alloc_new _ _)) (fun u hu=>by simp at hu;rcases hu with rfl|rfl|rfl<;>rfl) HM1.out HM2.out HM3.out ?_;intro v' v5 hown' hgrow _)
    have bel5:=(bel3.alloc bel3.size (.cells #[.int .i64 x1,.int .i64 x2,.int .u32 ((x3:Int) % 4294967296)] 138)).grown hgrow (by have:=bel3.size;simp;omega) (fun j hj=>by have:=(OWN.out.lt j hj).1;omega)
    have hne:some w.heap.size≠Value.ownBlock u8:=fun e=>by have:=(OWN.out.lt _ e.symm).1;omega
    have R5:=(RAt.below RR.out (zaf _ (.cells #[.int .i64 x1,.int .i64 x2,.int .u32 ((x3:Int) % 4294967296)] 138))).grown hgrow hne
    have hcells:zba (out++[⟨x1,x2,x3 % 4294967296⟩])=zba out++[.int .i64 x1,.int .i64 x2,.int .u32 ((x3:Int) % 4294967296)]:=by
     rw[zdx,zdl];simp only[Blk.cells];simp
    go_roundw
    case rel=>exact⟨k+1,out++[⟨x1,x2,x3 % 4294967296⟩],m3,d3,by go_num,KK.out.1,by simp[HOK.out],by have:=HO3.out;simp;omega,(fun h=>absurd h HD.out),by omega,by rw[KK.out.2];exact HS.out,R5,by rw[hcells];exact hown',bel5⟩
    case measure=>simp[intOf];omega
  ·have hEX:rd0 L=(out,l,c):=by
    rw[HRD.out]
    by_cases hc:c=0
    ·have:many - k=0:=by omega
     rw[this,zon]
    ·exact zzu _ _ hc _
   have HEX:=hid hEX
   clear hEX
   have WAYS:¬(k:Int)<many∨(k:Int)<many∧c≠0:=by omega
   have EN:=hid (zh1 E w.heap.size l c wr R (HT.out.below bel))
   clear hgo
   obtain⟨A,cap,rfl⟩:=zab hown
   have WAYS2:¬(k:Int)<many∨(k:Int)<many∧∃x,ev E c=.iface 338 x:=by
    rcases WAYS with h|⟨h,hc⟩
    ·exact .inl h
    ·exact .inr ⟨h,_,zep E hc⟩
   clear WAYS
   rcases WAYS2 with h|⟨h,x,hx⟩
   all_goals
    try rw[hx] at r1
    try clear hx
    go_wp2_with fail
    refine EN.out.mono ?_
    rintro e v4⟨rfl,R4,g4⟩
    have bel4:=bel.grown g4 bel.size (fun k hk=>by cases hk;exact Nat.le_refl _)
    have hown4:=zbp hown (Nat.lt_succ_self _) g4
    clear bel g4 hown R R4 r0 r1
    by_cases he:zg6 l c=0
    ·have CK:=znw E A k cap out size v4 (SliceIs.ownedK hown4) (HB.out.below bel4) (HFU.out.below bel4)
     have HCK:=hid CK
     clear CK
     by_cases hcode:(chk out size).1=0
     ·have hr:=zsa HEX.out he (by rw[HSZ.out];exact hcode)
      rw[HSZ.out] at hr
      have HR:=hid hr
      have HC:=hid hcode
      rw[he,zaj]
      clear hr he hcode
      go_wp2_with fail
      refine HCK.out.mono ?_
      rintro e v5⟨v,rfl,fe,b5⟩
      rw[HC.out] at fe
      rw[fe.zero]
      clear fe
      go_wp2_with fail
      go_ret3
      refine⟨_,by rw[HR.out,zaj];rfl,?_,zaa bel4 b5⟩
      rw[HR.out]
      simp only[]
      rw[HOK.out]
      exact zhj (zad hown4 b5) (by omega)
     ·have hr:=zzo HEX.out he (by rw[HSZ.out];exact hcode)
      rw[HSZ.out] at hr
      have HR:=hid hr
      have HC:=hid hcode
      rw[he,zaj]
      clear hr he hcode
      go_wp2_with fail
      refine HCK.out.mono ?_
      rintro e v5⟨v,rfl,fe,b5⟩
      have BA:=hid (zrl E v _ _ v5 fe)
      obtain⟨t,p,hv⟩:=fe.some HC.out
      rw[hv] at BA ⊢
      clear fe hv
      go_wp2_with fail
      refine BA.out.mono ?_
      rintro e v6⟨rfl,rfl⟩
      go_wp2_with fail
      go_ret3
      refine⟨.slice none 0 0,by rw[HR.out];rfl,?_,zaa bel4 b5⟩
      rw[HR.out]
      simp only[]
      rw[zgj]
      exact World.ownsRow_nil _ _ _ _
    ·have HR:=hid (zzn HEX.out he)
     have hev:=za9 E he
     rw[hev]
     have HEV:=hid hev
     unfold za0 at HEV ⊢
     clear hev he
     go_wp2_with fail
     go_ret3
     refine⟨.slice none 0 0,by rw[HR.out,HEV.out];rfl,?_,bel4⟩
     rw[HR.out]
     simp only[]
     rw[zgj]
     exact World.ownsRow_nil _ _ _ _
theorem zkk(n l:Int)(w:World)(h:l≤n∧n≤4000):Calls Tryz.prog 267 #[.int .i64 n,.int .i64 l] w fun e w'=>e=.returned (.bool true)∧w=w':=by
 obtain⟨h1,h2⟩:=h
 go_enter Tryz.func267,Tryz.ntmps267
 go_wp2_with fail
 go_ret
 exact⟨by first|rfl|exact zjm (by simp[*]),rfl⟩
theorem zl1(n l:Int)(w:World)(h:¬(l≤n∧n≤4000)):Calls Tryz.prog 267 #[.int .i64 n,.int .i64 l] w fun e w'=>e=.returned (.bool false)∧w=w':=by
 have h':n<l∨l≤n∧4000<n:=by omega
 clear h
 rcases h' with h1|⟨h1,h2⟩
 all_goals
  go_enter Tryz.func267,Tryz.ntmps267
  go_wp2_with fail
  go_ret
  exact⟨by first|rfl|exact zjm (by simp[*]),rfl⟩
def POp.val(o:POp):Value:=.agg #[.string (bs o.kind),.int .i64 o.a,.int .i64 o.n,.string (bs o.data)]
theorem zyu:bs zbz=⟨#[99,111,112,121]⟩:=by rw[ze3];unfold bs;rfl
theorem zyt:bs zcg=⟨#[100,97,116,97]⟩:=by rw[ze2];unfold bs;rfl
theorem yrp(a b:List UInt8):bs a++bs b=bs (a++b):=zg0 (by simp)
theorem zc3(a b:List UInt8)(h:a=b):((bs a).toList==b)=true:=by simp[ByteArray.toList_eq,h]
theorem zbj(a b:List UInt8)(h:a≠b):((bs a).toList==b)=false:=by simp[ByteArray.toList_eq,h]
theorem tl_em(a:List UInt8)(h:a=[]):(bs a).toList.isEmpty=true:=by simp[ByteArray.toList_eq,h]
theorem yqg(a:List UInt8)(h:a≠[]):(bs a).toList.isEmpty=false:=by simp[ByteArray.toList_eq,h]
theorem zu9(E:Nat→Addr)(o:POp)(w:World)(h2:Has E w 2)(h3:Has E w 3)(h4:Has E w 4):
  Calls Tryz.prog 259 #[o.val] w fun e w'=>e=.returned (ev E (opC o))∧Below w.heap.size w w':=by
 have z2:0<w.heap.size:=World.block_lt_of_cell? w _ h2
 have z3:6<w.heap.size:=World.block_lt_of_cell? w _ h3
 have z4:17<w.heap.size:=World.block_lt_of_cell? w _ h4
 have c2:w.cell? ⟨0,0,none⟩=some (za0 (E 2)):=h2
 have c3:w.cell? ⟨6,0,none⟩=some (za0 (E 3)):=h3
 have c4:w.cell? ⟨17,0,none⟩=some (za0 (E 4)):=h4
 have HA:=hid (fun o=>zaf w o)
 have V0:=hid (zaj E)
 have V2:=hid (za9 E (c:=2) (by decide))
 have V3:=hid (za9 E (c:=3) (by decide))
 have V4:=hid (za9 E (c:=4) (by decide))
 clear h2 h3 h4
 have H1:=hid (fun h1 h2=>yew (o:=o) h1 h2)
 have H2:=hid (fun h1 h2 h3=>yex (o:=o) h1 h2 h3)
 have H3:=hid (fun h1 h2 h3=>zxn (o:=o) h1 h2 h3)
 have H4:=hid (fun h0 h1 h2=>yeu (o:=o) h0 h1 h2)
 have H5:=hid (fun h0 h1 h2 h3=>yev (o:=o) h0 h1 h2 h3)
 have H6:=hid (fun h0 h1 h2 h3=>zxl (o:=o) h0 h1 h2 h3)
 have H7:=hid (fun h0 h1=>opK (o:=o) h0 h1)
 generalize opC o=c at *
 obtain⟨K,a,n,D⟩:=o
 unfold POp.val
 simp only[] at H1 H2 H3 H4 H5 H6 H7 ⊢
 by_cases hk:K=zbz
 ·have k1:=zc3 K [99,111,112,121] (by rw[hk,ze3])
  by_cases hd:D=[]
  ·have d1:=zc3 D [] hd
   have d2:=tl_em D hd
   by_cases ha:0≤a∧a≤4000
   ·have WA:=hid (fun w=>zkk a 0 w ha)
    by_cases hn:1≤n∧n≤4000
    ·have WN:=hid (fun w=>zkk n 1 w hn)
     have HC:=hid (H3.out hk hd ⟨ha,hn⟩)
     clear H1 H2 H3 H4 H5 H6 H7 hk hd ha hn
     go_enter Tryz.func259,Tryz.ntmps259
     go_wp2_with fail
     refine(WA.out _).mono ?_
     rintro e w1⟨rfl,rfl⟩
     go_wp2_with fail
     refine(WN.out _).mono ?_
     rintro e w1⟨rfl,rfl⟩
     go_wp2_with fail
     go_ret
     exact⟨by rw[HC.out,V0.out];rfl,HA.out _⟩
    ·have WN:=hid (fun w=>zl1 n 1 w hn)
     have HC:=hid (H2.out hk hd (fun h=>hn h.2))
     clear H1 H2 H3 H4 H5 H6 H7 hk hd ha hn
     go_enter Tryz.func259,Tryz.ntmps259
     go_wp2_with fail
     refine(WA.out _).mono ?_
     rintro e w1⟨rfl,rfl⟩
     go_wp2_with fail
     refine(WN.out _).mono ?_
     rintro e w1⟨rfl,rfl⟩
     go_wp2_with fail
     go_ret
     exact⟨by rw[HC.out,V2.out];rfl,HA.out _⟩
   ·have WA:=hid (fun w=>zl1 a 0 w ha)
    have HC:=hid (H2.out hk hd (fun h=>ha h.1))
    clear H1 H2 H3 H4 H5 H6 H7 hk hd ha
    go_enter Tryz.func259,Tryz.ntmps259
    go_wp2_with fail
    refine(WA.out _).mono ?_
    rintro e w1⟨rfl,rfl⟩
    go_wp2_with fail
    go_ret
    exact⟨by rw[HC.out,V2.out];rfl,HA.out _⟩
  ·have d1:=zbj D [] hd
   have d2:=yqg D hd
   have HC:=hid (H1.out hk hd)
   clear H1 H2 H3 H4 H5 H6 H7 hk hd
   go_enter Tryz.func259,Tryz.ntmps259
   go_wp2_with fail
   go_ret
   exact⟨by rw[HC.out,V3.out];rfl,HA.out _⟩
 ·have k1:=zbj K [99,111,112,121] (by rw[←ze3];exact hk)
  by_cases hk2:K=zcg
  ·have k2:=zc3 K [100,97,116,97] (by rw[hk2,ze2])
   by_cases ha:a=0
   ·by_cases hn:n=0
    ·by_cases hl:1≤D.length∧D.length≤4000
     ·have WN:=hid (fun w=>zkk D.length 1 w (by omega))
      have HC:=hid (H6.out hk hk2 ⟨ha,hn⟩ hl)
      clear H1 H2 H3 H4 H5 H6 H7 hk hk2 hl
      subst ha hn
      go_enter Tryz.func259,Tryz.ntmps259
      go_wp2_with fail
      refine(WN.out _).mono ?_
      rintro e w1⟨rfl,rfl⟩
      go_wp2_with fail
      go_ret
      exact⟨by rw[HC.out,V0.out];rfl,HA.out _⟩
     ·have WN:=hid (fun w=>zl1 D.length 1 w (by omega))
      have HC:=hid (H5.out hk hk2 ⟨ha,hn⟩ hl)
      clear H1 H2 H3 H4 H5 H6 H7 hk hk2 hl
      subst ha hn
      go_enter Tryz.func259,Tryz.ntmps259
      go_wp2_with fail
      refine(WN.out _).mono ?_
      rintro e w1⟨rfl,rfl⟩
      go_wp2_with fail
      go_ret
      exact⟨by rw[HC.out,V2.out];rfl,HA.out _⟩
    ·have n1:(n != 0)=true:=by simp[hn]
     have HC:=hid (H4.out hk hk2 (.inr hn))
     clear H1 H2 H3 H4 H5 H6 H7 hk hk2 hn
     subst ha
     go_enter Tryz.func259,Tryz.ntmps259
     go_wp2_with fail
     go_ret
     exact⟨by rw[HC.out,V3.out];rfl,HA.out _⟩
   ·have a1:(a != 0)=true:=by simp[ha]
    have HC:=hid (H4.out hk hk2 (.inl ha))
    clear H1 H2 H3 H4 H5 H6 H7 hk hk2 ha
    go_enter Tryz.func259,Tryz.ntmps259
    go_wp2_with fail
    go_ret
    exact⟨by rw[HC.out,V3.out];rfl,HA.out _⟩
  ·have k2:=zbj K [100,97,116,97] (by rw[←ze2];exact hk2)
   have HC:=hid (H7.out hk hk2)
   clear H1 H2 H3 H4 H5 H6 H7 hk hk2
   go_enter Tryz.func259,Tryz.ntmps259
   go_wp2_with fail
   go_ret
   exact⟨by rw[HC.out,V4.out];rfl,HA.out _⟩
theorem zqn{w:World}{s0:Option Addr}{n0 c0:Nat}{l:List POp}(hl:SliceIs w (.slice s0 n0 c0) 4 (za3 l)):l.length=n0∧c0≤9223372036854775807∧n0≤c0:=by
 obtain⟨s0',n0',c0',e1,e2,e3,e4,_⟩:=hl.get
 cases e1
 rw[zgd] at e2
 unfold maxLen at e4
 exact⟨by omega,by omega,e3⟩
theorem zjt{w:World}{s0:Option Addr}{n0 c0:Nat}{l:List POp}(hl:SliceIs w (.slice s0 n0 c0) 4 (za3 l))(k:Nat)(hk:k<l.length):
  ∃a,s0=some a∧w.cell? (a.add (k * 4))=some (.string (bs l[k].kind))∧w.cell? ⟨(a.add (k * 4)).block,(a.add (k * 4)).off+(0+1),none⟩=some (.int .i64 l[k].a)∧
   w.cell? ⟨(a.add (k * 4)).block,(a.add (k * 4)).off+(1+1),none⟩=some (.int .i64 l[k].n)∧w.cell? ⟨(a.add (k * 4)).block,(a.add (k * 4)).off+(2+1),none⟩=some (.string (bs l[k].data)):=by
 obtain⟨s0',n0',c0',e1,_,_,_,g1⟩:=hl.get
 cases e1
 obtain⟨g2,g3,g4,g5⟩:=zh8 l k hk
 obtain⟨a,rfl,d0⟩:=g1 _ _ g2
 obtain⟨a',e',d1⟩:=g1 _ _ g3
 cases e'
 obtain⟨a',e',d2⟩:=g1 _ _ g4
 cases e'
 obtain⟨a',e',d3⟩:=g1 _ _ g5
 cases e'
 exact⟨a,rfl,d0,zao d1,zao d2,zao d3⟩
theorem zky(E:Nat→Addr)(s0:Option Addr)(n0 c0:Nat)(l:List POp)(w:World)(hl:SliceIs w (.slice s0 n0 c0) 4 (za3 l))(h2:Has E w 2)(h3:Has E w 3)(h4:Has E w 4):
  Calls Tryz.prog 245 #[.slice s0 n0 c0] w fun e w'=>∃v,e=.returned v∧FErr E w' v (zb4 l).1 (zb4 l).2∧Below w.heap.size w w':=by
 obtain⟨rfl,hc0,hc1⟩:=zqn hl
 have HLS:=hid hl
 have HB:=hid h2
 have HS:=hid h3
 have HK:=hid h4
 have HCH:=hid (show zb4 l=zwb (l.drop 0) 0 by unfold zb4;rfl)
 clear hl h2 h3 h4
 go_enter Tryz.func245,Tryz.ntmps245
 go_wp2_with fail
 go_loopw [8,3,4,5] (fun i _ _ _ wr=>∃k:Nat,i=.int .i64 k∧k≤l.length∧zb4 l=zwb (l.drop k) k∧Below w.heap.size w wr) (fun i _ _ _ _=>l.length - (intOf i).toNat)
 case atStart=>exact⟨0,rfl,by omega,HCH.out,Below.refl _ _⟩
 case round=>
  obtain⟨k,rfl,hk,hf,bel⟩:=hrel
  have HF:=hid hf
  clear hf
  by_cases hlt:k<l.length
  ·have hltI:(k:Int)<l.length:=by omega
   obtain⟨ad,rfl,d0,d1,d2,d3⟩:=zjt (HLS.out.below bel) k hlt
   have KK:=hid (show k+1≤l.length by omega)
   have BAD:=hid (fun hb=>HF.out.trans (ylj hlt hb))
   have NEXT:=hid (fun hb=>HF.out.trans (yhj hlt hb))
   have x1:(0:Int)≤k:=by omega
   have x2:(k:Int).toNat=k:=by omega
   generalize l[k]=o at d0 d1 d2 d3 BAD NEXT
   have belA:=bel.alloc bel.size (.cells #[.string (bs o.kind),.int .i64 o.a,.int .i64 o.n,.string (bs o.data)] 104)
   have OC:=zu9 E o (wr.alloc (.cells #[.string (bs o.kind),.int .i64 o.a,.int .i64 o.n,.string (bs o.data)] 104)) (HB.out.below belA) (HS.out.below belA) (HK.out.below belA)
   unfold POp.val at OC
   by_cases hc:opC o=0
   ·rw[hc,zaj] at OC
    have HO:=hid OC
    have N:=hid (NEXT.out hc)
    clear OC hc NEXT BAD
    go_wp2_with fail
    refine HO.out.mono ?_
    rintro e w1⟨rfl,b1⟩
    have bel1:=zaa belA b1
    clear b1 HO belA bel
    go_wp2_with fail
    go_roundw
    case rel=>exact⟨k+1,by go_num,KK.out,N.out,bel1⟩
    case measure=>simp[intOf];omega
   ·have N:=hid (BAD.out hc)
    rw[za9 E hc] at OC
    unfold za0 at OC
    have HO:=hid OC
    have HC:=hid hc
    clear OC hc NEXT BAD
    go_wp2_with fail
    refine HO.out.mono ?_
    rintro e w1⟨rfl,b1⟩
    have bel1:=zaa belA b1
    clear b1 HO belA bel
    go_wp2_with fail
    go_ret
    exact⟨_,rfl,FErr.new E _ _ HC.out _ _ (by simp) _ N.out,bel1.alloc bel1.size _⟩
  ·have hltI:¬(k:Int)<l.length:=by omega
   have hb:=hid (HF.out.trans (yli (by omega:l.length≤k)))
   go_wp2_with fail
   go_ret
   exact⟨_,rfl,by rw[hb.out];exact FErr.nil E _,bel⟩
theorem zym(l:List POp)(k:Nat):zb7 (l.take k)≤zb7 l:=by
 have:=zaw (l.take k) (l.drop k)
 rw[List.take_append_drop] at this
 omega
theorem yle(s0:Option Addr)(n0 c0:Nat)(l:List POp)(w:World)(hl:SliceIs w (.slice s0 n0 c0) 4 (za3 l))(hcl:zb7 l≤1000000000):
  Calls Tryz.prog 106 #[.slice s0 n0 c0] w fun e w'=>e=.returned (.int .i64 (zb7 l))∧Below w.heap.size w w':=by
 obtain⟨rfl,hc0,hc1⟩:=zqn hl
 have HLS:=hid hl
 clear hl
 go_enter Tryz.func106,Tryz.ntmps106
 go_wp2_with fail
 go_loopw [8,3,5] (fun i n _ wr=>∃k:Nat,i=.int .i64 k∧k≤l.length∧n=.int .i64 (zb7 (l.take k))∧Below w.heap.size w wr) (fun i _ _ _=>l.length - (intOf i).toNat)
 case atStart=>exact⟨0,rfl,by omega,by simp[zgh],Below.refl _ _⟩
 case round=>
  obtain⟨k,rfl,hk,rfl,bel⟩:=hrel
  have hle:=zym l k
  by_cases hlt:k<l.length
  ·have hltI:(k:Int)<l.length:=by omega
   obtain⟨ad,rfl,d0,d1,d2,d3⟩:=zjt (HLS.out.below bel) k hlt
   have KK:=hid (show k+1≤l.length by omega)
   have htk:=List.take_succ_eq_append_getElem hlt
   have hle2:=zym l (k+1)
   have hst:zb7 (l.take (k+1))=zb7 (l.take k)+l[k].data.length:=by rw[htk,zaw,zbr];rfl
   have x1:(0:Int)≤k:=by omega
   have x2:(k:Int).toNat=k:=by omega
   generalize l[k]=o at d0 d1 d2 d3 hst
   have hle3:o.data.length≤1000000000:=by omega
   have HST:=hid hst
   have belA:=bel.alloc bel.size (.cells #[.string (bs o.kind),.int .i64 o.a,.int .i64 o.n,.string (bs o.data)] 104)
   clear htk hst hle2
   go_wp2_with fail
   go_roundw
   case rel=>exact⟨k+1,by go_num,KK.out,by rw[HST.out];go_num,belA⟩
   case measure=>simp[intOf];omega
  ·have hltI:¬(k:Int)<l.length:=by omega
   have htk:l.take k=l:=List.take_of_length_le (by omega)
   rw[htk]
   clear htk
   go_wp2_with fail
   go_ret
   exact⟨rfl,bel⟩
theorem zng:(Tryz.prog.info? 104).map (fun i=>(i.zero,i.size,i.bytes))=some (some (.agg #[.string ⟨#[]⟩,.int .i64 0,.int .i64 0,.string ⟨#[]⟩]),4,48):=by kernel_rfl
def zeh(l:List POp)(k:Int):List POp:=
 match l.getLast? with
 | none=>l++[⟨zbz,k,1,[]⟩]
 | some o=>if o.kind=zbz∧o.a+o.n=k then l.dropLast++[⟨o.kind,o.a,o.n+1,o.data⟩] else l++[⟨zbz,k,1,[]⟩]
def zef(l:List POp)(d:List UInt8):List POp:=
 match l.getLast? with
 | none=>l++[⟨zcg,0,0,d⟩]
 | some o=>if o.kind=zcg then l.dropLast++[⟨o.kind,o.a,o.n,o.data++d⟩] else l++[⟨zcg,0,0,d⟩]
theorem zeg(k:Int):zeh [] k=[]++[⟨zbz,k,1,[]⟩]:=rfl
theorem zet(m:List POp)(o:POp)(k:Int)(h:o.kind=zbz∧o.a+o.n=k):zeh (m++[o]) k=m++[⟨o.kind,o.a,o.n+1,o.data⟩]:=by unfold zeh;simp[h]
theorem zdg(m:List POp)(o:POp)(k:Int)(h:¬(o.kind=zbz∧o.a+o.n=k)):zeh (m++[o]) k=(m++[o])++[⟨zbz,k,1,[]⟩]:=by
 unfold zeh
 rw[List.getLast?_append]
 simp only[List.getLast?_singleton,Option.some_or]
 rw[if_neg h]
theorem zee(d:List UInt8):zef [] d=[]++[⟨zcg,0,0,d⟩]:=rfl
theorem zes(m:List POp)(o:POp)(d:List UInt8)(h:o.kind=zcg):zef (m++[o]) d=m++[⟨o.kind,o.a,o.n,o.data++d⟩]:=by unfold zef;simp[h]
theorem zft(m:List POp)(o:POp)(d:List UInt8)(h:o.kind≠zcg):zef (m++[o]) d=(m++[o])++[⟨zcg,0,0,d⟩]:=by
 unfold zef
 rw[List.getLast?_append]
 simp only[List.getLast?_singleton,Option.some_or]
 rw[if_neg h]
attribute [irreducible] zeh zef
def MRaw(w:World)(b:Nat)(v:Value)(l:List POp):Prop:=w.heap[b]?=some (.cells #[v] 237 (0,0))∧w.ownsRow (b+1) 104 4 v l.length (za3 l)
def MAt(w:World)(b:Nat)(l:List POp):Prop:=∃v,MRaw w b v l
theorem MRaw.lt{w:World}{b:Nat}{v:Value}{l:List POp}(h:MRaw w b v l):b<w.heap.size:=lt_of_block h.1
theorem MRaw.c0{w:World}{b:Nat}{v:Value}{l:List POp}(h:MRaw w b v l):w.cell? ⟨b,0,none⟩=some v:=by have:=h.1;simp[World.cell?,this]
theorem MRaw.below{w w':World}{b:Nat}{v:Value}{l:List POp}(h:MRaw w b v l)(hb:Below w.heap.size w w'):MRaw w' b v l:=
 ⟨(hb.block b h.lt).trans h.1,zad h.2 hb⟩
theorem MAt.below{w w':World}{b:Nat}{l:List POp}(h:MAt w b l)(hb:Below w.heap.size w w'):MAt w' b l:=by obtain⟨v,h⟩:=h;exact⟨v,h.below hb⟩
theorem MAt.new(w:World):MAt (w.alloc (.cells #[.slice none 0 0] 237)) w.heap.size []:=
 ⟨.slice none 0 0,heap_alloc_new _ _,by rw[zfc];exact World.ownsRow_nil _ _ _ _⟩
theorem MRaw.grown{w w':World}{o:Obj}{b:Nat}{v:Value}{l:List POp}(h:MRaw w b v l)(hg:(w.alloc o).grownBy w' v.ownBlock):w'.heap[b]?=some (.cells #[v] 237 (0,0)):=
 (hg.block b (by have:=h.lt;simp;omega) (fun e=>by have:=h.2.lt b e.symm;omega)).trans ((Below.heap_alloc w o b h.lt).trans h.1)
theorem MRaw.cg{w w':World}{o:Obj}{b:Nat}{v:Value}{l:List POp}(h:MRaw w b v l)(hg:(w.alloc o).grownBy w' v.ownBlock):w'.cell? ⟨b,0,none⟩=some v:=by simp[World.cell?,h.grown hg]
theorem MRaw.fg{w w':World}{o:Obj}{b:Nat}{v:Value}{l:List POp}(h:MRaw w b v l)(hg:(w.alloc o).grownBy w' v.ownBlock):w'.frozen? ⟨b,0,none⟩=false:=by simp[World.frozen?,h.grown hg]
theorem MRaw.tail{w w':World}{o:Obj}{b:Nat}{v v':Value}{l:List POp}{p:POp}(h:MRaw w b v l)(h1:w'.ownsRow (b+1) 104 4 v' (l.length+1) (za3 l++p.vals))(hg:(w.alloc o).grownBy w' v.ownBlock):
  MAt (w'.setCell ⟨b,0,none⟩ v') b (l++[p])∧Below b w (w'.setCell ⟨b,0,none⟩ v'):=by
 refine⟨⟨v',za2 (h.grown hg),?_⟩,((((Below.refl b w).alloc (Nat.le_of_lt h.lt) o).grown hg (by have:=h.lt;simp;omega) (fun k hk=>by have:=h.2.lt k hk;omega)).setCell (p:=⟨b,0,none⟩) (Nat.le_refl _) _)⟩
 have:=ownsRow_setCell_below h1 (a:=⟨b,0,none⟩) (Nat.lt_succ_self b) v'
 rw[zcl,zdi,List.length_append]
 exact this
theorem zfp{w:World}{b:Nat}{u0 u1 u2 u3:Value}(h:w.heap[b]?=some (.cells #[u0,u1,u2,u3] 104 (0,0))):∀j u',[u0,u1,u2,u3][j]?=some u'→w.cell? ((⟨b,0,none⟩:Addr).add j)=some u':=by
 intro j u' hj
 match j,hj with
 | 0,hj=>simp at hj;subst hj;simp[World.cell?,h,Addr.add]
 | 1,hj=>simp at hj;subst hj;simp[World.cell?,h,Addr.add]
 | 2,hj=>simp at hj;subst hj;simp[World.cell?,h,Addr.add]
 | 3,hj=>simp at hj;subst hj;simp[World.cell?,h,Addr.add]
theorem zd1(l:List POp):l=[]∨∃m o,l=m++[o]:=by
 rcases List.eq_nil_or_concat l with h|⟨m,o,h⟩
 ·exact .inl h
 ·exact .inr ⟨m,o,by simpa using h⟩
theorem MRaw.last{w:World}{b:Nat}{v:Value}{m:List POp}{o:POp}(h:MRaw w b v (m++[o])):∃g cap,v=.slice (some ⟨g,0,none⟩) (m.length+1) cap∧b<g∧m.length+1≤cap∧cap≤maxLen∧w.cell? ⟨g,m.length * 4,none⟩=some (.string (bs o.kind))∧w.cell? ⟨g,m.length * 4+1,none⟩=some (.int .i64 o.a)∧
  w.cell? ⟨g,m.length * 4+2,none⟩=some (.int .i64 o.n)∧w.cell? ⟨g,m.length * 4+3,none⟩=some (.string (bs o.data))∧(∀j,w.frozen? ⟨g,j,none⟩=false):=by
 obtain⟨g,cap,hv,hg,_,h3,h4,hc,hf⟩:=zgc h.2 (by simp)
 obtain⟨g0,g1,g2,g3⟩:=zh8 (m++[o]) m.length (by simp)
 simp only[List.getElem_append_right (Nat.le_refl _),Nat.sub_self,List.getElem_singleton] at g0 g1 g2 g3
 exact⟨g,cap,by rw[hv];simp,by omega,by simpa using h3,h4,hc _ _ g0,hc _ _ g1,hc _ _ g2,hc _ _ g3,hf⟩
theorem zdk{b n:Nat}{w w':World}(h:Below b (w.drewN n) w'):Below b w w':=⟨h.os,h.tape,h.output,h.size,h.block⟩
theorem MRaw.store{w:World}{b g cap:Nat}{m:List POp}{o p:POp}(j:Nat)(u:Value)(h:MRaw w b (.slice (some ⟨g,0,none⟩) (m.length+1) cap) (m++[o]))(hj:j<4)(hp:o.vals.set j u=p.vals):
  MAt (w.setCell ⟨g,m.length * 4+j,none⟩ u) b (m++[p])∧Below b w (w.setCell ⟨g,m.length * 4+j,none⟩ u):=by
 have hn:(m++[o]).length=m.length+1:=by simp
 have ho:=h.2
 rw[hn] at ho
 have hg:=ho.lt g rfl
 have hs:=ho.stored (m.length * 4+j) u
 have hc:(za3 (m++[o])).set (m.length * 4+j) u=za3 (m++[p]):=by
  rw[zcl,zcl,zdi,zdi,List.set_append_right _ _ (by rw[zgd];omega),zgd,Nat.add_sub_cancel_left,hp]
 refine⟨⟨.slice (some ⟨g,0,none⟩) (m.length+1) cap,?_,?_⟩,(Below.refl b w).setCell (p:=⟨g,m.length * 4+j,none⟩) (by show b≤g;omega) u⟩
 ·exact(Below.heap_setCell w ⟨g,m.length * 4+j,none⟩ u b (by show b≠g;omega)).trans h.1
 ·rw[show(m++[p]).length=m.length+1 by simp,←hc];exact hs.1
theorem zik(k:Int):POp.vals ⟨zbz,k,1,[]⟩=[.string ⟨#[99,111,112,121]⟩,.int .i64 k,.int .i64 1,.string ⟨#[]⟩]:=by simp only[POp.vals,zyu,bs_nil]
theorem zlt(d:List UInt8):POp.vals ⟨zcg,0,0,d⟩=[.string ⟨#[100,97,116,97]⟩,.int .i64 0,.int .i64 0,.string (bs d)]:=by simp only[POp.vals,zyt]
theorem yfc(b:Nat)(l:List POp)(k:Int)(w:World)(h:MAt w b l)(hl:l.length≤1000000)(hb:∀o∈l,0≤o.a∧o.a≤1000000∧0≤o.n∧o.n≤1000000∧o.data.length≤1000000)(hk:0≤k∧k≤1000000):
  Calls Tryz.prog 148 #[.pointer (some ⟨b,0,none⟩),.int .i64 k] w fun e w'=>e=.returned (.tuple #[])∧MAt w' b (zeh l k)∧Below b w w':=by
 obtain⟨i0,hi,hz0,hz1,hz2⟩:=info_parts zng
 obtain⟨v,h⟩:=h
 have c0:=h.c0
 rcases zd1 l with rfl|⟨m,o,rfl⟩
 ·have HR:=hid h
  have hown:=h.2
  obtain⟨A,cap,rfl⟩:=zdo hown
  rw[zeg]
  clear h hb hl hown
  go_enter Tryz.func148,Tryz.ntmps148
  go_wp2_with fail
  go_quiet (fail)
  have NEWC:Hid (∀u∈([.string ⟨#[99,111,112,121]⟩,.int .i64 k,.int .i64 1,.string ⟨#[]⟩]:List Value),u.oneCell'=true):=fun u hu=>by simp at hu;rcases hu with rfl|rfl|rfl|rfl<;>rfl
  have OWN:=hid (show World.ownsRow (w.drewN nq) (b+1) 104 4 _ 0 _ from HR.out.2)
  have WR:=hid (show MRaw (w.drewN nq) b _ _ from HR.out)
  have HM1:Hid (0+1≤maxLen):=by show _≤_;unfold maxLen;omega
  have HM2:Hid ((0+1) * 48≤140737488355328):=by show _≤_;omega
  have HM3:Hid (b+1≤((w.drewN nq).alloc (.cells #[.string ⟨#[99,111,112,121]⟩,.int .i64 k,.int .i64 1,.string ⟨#[]⟩] 104)).heap.size):=by show _≤_;have:=HR.out.lt;simp;omega
  go_wp2_with (at_builtin;refine wpList_append_own _ rfl _ _ 98 rfl (b+1) 104 i0 _ 4 48 Tryz.underlying98 hi hz0 hz1 hz2 rfl (by decide) _ _ _ rfl (OWN.out.alloc _) ⟨w.heap.size,0,none⟩ 1 1 [.string ⟨#[99,111,112,121]⟩,.int .i64 k,.int .i64 1,.string ⟨#[]⟩] rfl rfl (zfp (heap_alloc_new (w.drewN nq) _)) (fun u hu=>NEWC.out u hu) HM1.out HM2.out HM3.out ?_;intro v' w3 hown' hgrow _;obtain⟨A',q',rfl⟩:=zdo hown';have fb:=MRaw.fg WR.out hgrow;have cb:=MRaw.cg WR.out hgrow)
  have T:=MRaw.tail (p:=⟨zbz,k,1,[]⟩) WR.out (by rw[zik];exact hown') hgrow
  go_returns
  exact⟨rfl,T.1,by first|exact T.2|exact zdk T.2⟩
 ·obtain⟨g,cap,rfl,hg,hc1,hc2,d0,d1,d2,d3,df⟩:=h.last
  obtain⟨y1,y2,y3,y4,y5⟩:=hb o (by simp)
  have hml:m.length≤1000000:=by simp at hl;omega
  have HR:=hid h
  have HDF:=hid df
  clear h hb hl df
  unfold maxLen at hc2
  by_cases hkk:o.kind=zbz
  ·have k1:=zc3 o.kind [99,111,112,121] (by rw[hkk,ze3])
   by_cases hak:o.a+o.n=k
   ·rw[zet m o k ⟨hkk,hak⟩]
    have q1:(o.a+o.n==k)=true:=by simp[hak]
    have HAK:=hid hak
    have f2:=HDF.out (m.length * 4+2)
    clear hkk hak
    go_enter Tryz.func148,Tryz.ntmps148
    go_wp2_with fail
    go_quiet (fail)
    go_wp2_with fail
    have T:=(MRaw.store (w:=w.drewN nq) (p:=⟨o.kind,o.a,o.n+1,o.data⟩) 2 (.int .i64 (o.n+1)) HR.out (by decide) rfl)
    go_returns
    exact⟨rfl,T.1,zdk T.2⟩
   ·rw[zdg m o k (fun h=>hak h.2)]
    have q1:(o.a+o.n==k)=false:=by simp[hak]
    have HLEN:(m++[o]).length=m.length+1:=by simp
    have HLN:=hid HLEN
    clear hkk hak HLEN
    go_enter Tryz.func148,Tryz.ntmps148
    go_wp2_with fail
    go_quiet (fail)
    have NEWC:Hid (∀u∈([.string ⟨#[99,111,112,121]⟩,.int .i64 k,.int .i64 1,.string ⟨#[]⟩]:List Value),u.oneCell'=true):=fun u hu=>by simp at hu;rcases hu with rfl|rfl|rfl|rfl<;>rfl
    have OWN:=hid (show World.ownsRow (w.drewN nq) (b+1) 104 4 (.slice (some ⟨g,0,none⟩) (m.length+1) cap) (m.length+1) (za3 (m++[o])) from(by have:=HR.out.2;rw[HLN.out] at this;exact this))
    have WR:=hid (show MRaw (w.drewN nq) b _ _ from HR.out)
    have HM1:Hid ((m.length+1)+1≤maxLen):=by show _≤_;unfold maxLen;omega
    have HM2:Hid (((m.length+1)+1) * 48≤140737488355328):=by show _≤_;omega
    have HM3:Hid (b+1≤((w.drewN nq).alloc (.cells #[.string ⟨#[99,111,112,121]⟩,.int .i64 k,.int .i64 1,.string ⟨#[]⟩] 104)).heap.size):=by show _≤_;have:=HR.out.lt;simp;omega
    go_wp2_with (at_builtin;refine wpList_append_own _ rfl _ _ 98 rfl (b+1) 104 i0 _ 4 48 Tryz.underlying98 hi hz0 hz1 hz2 rfl (by decide) _ _ _ rfl (OWN.out.alloc _) ⟨w.heap.size,0,none⟩ 1 1 [.string ⟨#[99,111,112,121]⟩,.int .i64 k,.int .i64 1,.string ⟨#[]⟩] rfl rfl (zfp (heap_alloc_new (w.drewN nq) _)) (fun u hu=>NEWC.out u hu) HM1.out HM2.out HM3.out ?_;intro v' w3 hown' hgrow _;obtain⟨A',q',rfl⟩:=zdo hown';have fb:=MRaw.fg WR.out hgrow;have cb:=MRaw.cg WR.out hgrow)
    have T:=MRaw.tail (p:=⟨zbz,k,1,[]⟩) WR.out (by rw[zik,HLN.out];exact hown') hgrow
    go_returns
    exact⟨rfl,T.1,by first|exact T.2|exact zdk T.2⟩
  ·have k1:=zbj o.kind [99,111,112,121] (by rw[←ze3];exact hkk)
   rw[zdg m o k (fun h=>hkk h.1)]
   have HLEN:(m++[o]).length=m.length+1:=by simp
   clear hkk
   have HLN:=hid HLEN
   clear HLEN
   go_enter Tryz.func148,Tryz.ntmps148
   go_wp2_with fail
   go_quiet (fail)
   have NEWC:Hid (∀u∈([.string ⟨#[99,111,112,121]⟩,.int .i64 k,.int .i64 1,.string ⟨#[]⟩]:List Value),u.oneCell'=true):=fun u hu=>by simp at hu;rcases hu with rfl|rfl|rfl|rfl<;>rfl
   have OWN:=hid (show World.ownsRow (w.drewN nq) (b+1) 104 4 (.slice (some ⟨g,0,none⟩) (m.length+1) cap) (m.length+1) (za3 (m++[o])) from(by have:=HR.out.2;rw[HLN.out] at this;exact this))
   have WR:=hid (show MRaw (w.drewN nq) b _ _ from HR.out)
   have HM1:Hid ((m.length+1)+1≤maxLen):=by show _≤_;unfold maxLen;omega
   have HM2:Hid (((m.length+1)+1) * 48≤140737488355328):=by show _≤_;omega
   have HM3:Hid (b+1≤((w.drewN nq).alloc (.cells #[.string ⟨#[99,111,112,121]⟩,.int .i64 k,.int .i64 1,.string ⟨#[]⟩] 104)).heap.size):=by show _≤_;have:=HR.out.lt;simp;omega
   go_wp2_with (at_builtin;refine wpList_append_own _ rfl _ _ 98 rfl (b+1) 104 i0 _ 4 48 Tryz.underlying98 hi hz0 hz1 hz2 rfl (by decide) _ _ _ rfl (OWN.out.alloc _) ⟨w.heap.size,0,none⟩ 1 1 [.string ⟨#[99,111,112,121]⟩,.int .i64 k,.int .i64 1,.string ⟨#[]⟩] rfl rfl (zfp (heap_alloc_new (w.drewN nq) _)) (fun u hu=>NEWC.out u hu) HM1.out HM2.out HM3.out ?_;intro v' w3 hown' hgrow _;obtain⟨A',q',rfl⟩:=zdo hown';have fb:=MRaw.fg WR.out hgrow;have cb:=MRaw.cg WR.out hgrow)
   have T:=MRaw.tail (p:=⟨zbz,k,1,[]⟩) WR.out (by rw[zik,HLN.out];exact hown') hgrow
   go_returns
   exact⟨rfl,T.1,by first|exact T.2|exact zdk T.2⟩
end Go.Proofs.YtakhkcaihhpehaaGreatDoor
