/- Texts of one proof, one behind the other: FilRead, FilBackP, FilKeepP, XferPlain, GateMap, XferMap, Gate, XferAt, XferPut. -/
import Derived.Test.YtakhkcaihhpehaaGreatDoorB16
import Derived.Test.YtakhkcaihhpehaaGreatDoorB06
import Derived.Test.YtakhkcaihhpehaaGreatDoorB18
import Derived.Test.YtakhkcaihhpehaaGreatDoorB11
import Derived.Test.YtakhkcaihhpehaaGreatDoorB12
import Derived.Test.YtakhkcaihhpehaaGreatDoorB13
import Derived.Test.YtakhkcaihhpehaaGreatDoorB14
import Derived.Test.YtakhkcaihhpehaaGreatDoorB04
import Derived.Test.YtakhkcaihhpehaaGreatDoorB09
import Derived.Maps.OwnSet
import Derived.Maps.Views
import Derived.Test.YtakhkcaihhpehaaGreatDoorB03
import Derived.Test.YtakhkcaihhpehaaGreatDoorB07
import Derived.Sort.Walk0
import Derived.Sort.KeysCollected
namespace Go.Proofs.YtakhkcaihhpehaaGreatDoor
open Go.RowKit
open Lib (hid)
set_option linter.unusedVariables false
set_option maxRecDepth 100000
set_option maxHeartbeats 51200000
def ydl(l:List UInt8):PL×List UInt8×Nat:=
 (⟨rtT l 0,rnN (rtR l 0) (rtC l 0),rnN (rnR (rtR l 0) (rtC l 0)) (rnC (rtR l 0) (rtC l 0)) % 4294967296⟩,
  rnR (rnR (rtR l 0) (rtC l 0)) (rnC (rtR l 0) (rtC l 0)),
  if rnC (rnR (rtR l 0) (rtC l 0)) (rnC (rtR l 0) (rtC l 0))=0∧4294967295<rnN (rnR (rtR l 0) (rtC l 0)) (rnC (rtR l 0) (rtC l 0)) then 1 else rnC (rnR (rtR l 0) (rtC l 0)) (rnC (rtR l 0) (rtC l 0)))
theorem zuz(l l1 l2:List UInt8)(c1 c2:Nat)(h1:rtR l 0=l1)(h2:rtC l 0=c1)(h3:rnR l1 c1=l2)(h4:rnC l1 c1=c2):
  ydl l=(⟨rtT l 0,rnN l1 c1,rnN l2 c2 % 4294967296⟩,rnR l2 c2,if rnC l2 c2=0∧4294967295<rnN l2 c2 then 1 else rnC l2 c2):=by
 subst h1 h2 h3 h4;rfl
theorem yqp(l:List UInt8)(c:Nat):(rtT l c).length≤20000:=by
 have:=(yl3 l).1
 unfold rtT;split
 ·exact this
 ·simp
theorem yif(l:List UInt8)(h:tC l=0):(tR l).length<l.length:=by
 have hg:gC l=0:=by
  unfold tC at h;split at h
  ·rename_i h1;exact absurd h h1
  ·rename_i h1;omega
 have h2:=zq5 l hg
 unfold tR;rw[if_pos h,List.length_drop];omega
theorem yi3(l:List UInt8)(h:(ydl l).2.2=0):(ydl l).2.1.length<l.length:=by
 have hi:=zuz l _ _ _ _ rfl rfl rfl rfl
 rw[hi] at h ⊢
 simp only[] at h ⊢
 split at h
 ·simp at h
 ·have h3:=zh0 h
  have h2:=zh0 h3.1
  have:=yif l (yiu (l:=l) (c:=0) h2.1).2
  have e1:=(zc7 l).2.1
  have l2:=zb5 (rtR l 0) (rtC l 0)
  have l3:=zb5 (rnR (rtR l 0) (rtC l 0)) (rnC (rtR l 0) (rtC l 0))
  rw[e1] at l2 l3 ⊢
  omega
def zg4:Nat→List UInt8→Nat→List PL→List PL×List UInt8×Nat
 | 0,l,c,out=>(out,l,c)
 | f+1,l,c,out=>if c=0 then zg4 f (ydl l).2.1 (ydl l).2.2 (out++[(ydl l).1]) else (out,l,c)
theorem zoh(l:List UInt8)(c:Nat)(out:List PL):zg4 0 l c out=(out,l,c):=rfl
theorem zzk(f:Nat)(l:List UInt8){c:Nat}(h:c≠0)(out:List PL):zg4 f l c out=(out,l,c):=by
 cases f with
 | zero=>rfl
 | succ f=>simp[zg4,h]
theorem zmd{f:Nat}(hf:0<f)(l:List UInt8)(out:List PL):zg4 f l 0 out=zg4 (f - 1) (ydl l).2.1 (ydl l).2.2 (out++[(ydl l).1]):=by
 obtain⟨g,rfl⟩:∃g,f=g+1:=⟨f - 1,by omega⟩
 simp[zg4]
def rl0(L:List UInt8):List PL×List UInt8×Nat:=zg4 (rnN L 0) (rnR L 0) (rnC L 0) []
def zex(L:List UInt8):List PL×Nat:=
 if zg6 (rl0 L).2.1 (rl0 L).2.2≠0 then ([],zg6 (rl0 L).2.1 (rl0 L).2.2)
 else if (zbb (rl0 L).1).1≠0 then ([],(zbb (rl0 L).1).1) else ((rl0 L).1,0)
theorem zzr{L l:List UInt8}{c:Nat}{out:List PL}(h:rl0 L=(out,l,c))(h1:zg6 l c≠0):zex L=([],zg6 l c):=by simp[zex,h,h1]
theorem zzs{L l:List UInt8}{c:Nat}{out:List PL}(h:rl0 L=(out,l,c))(h1:zg6 l c=0)(h2:(zbb out).1≠0):zex L=([],(zbb out).1):=by simp[zex,h,h1,h2]
theorem zsb{L l:List UInt8}{c:Nat}{out:List PL}(h:rl0 L=(out,l,c))(h1:zg6 l c=0)(h2:(zbb out).1=0):zex L=(out,0):=by simp[zex,h,h1,h2]
theorem yma{L l1:List UInt8}{c1:Nat}(h1:rnR L 0=l1)(h2:rnC L 0=c1):rl0 L=zg4 (rnN L 0) l1 c1 []:=by subst h1 h2;rfl
attribute [irreducible] ydl zg4 rl0 zex
theorem ya5(E:Nat→Addr)(s:ByteArray)(w:World)(hs:s.size≤100000000)(hT:Has E w 1)(hB:Has E w 2)(hN:Has E w 5)(hF:Has E w 8)(hO:Has E w 9):
  Calls Tryz.prog 247 #[.string s] w fun e w'=>∃v,e=.returned (.tuple #[v,ev E (zex s.data.toList).2])∧
   w'.ownsRow w.heap.size 173 3 v (zex s.data.toList).1.length (zau (zex s.data.toList).1)∧Below w.heap.size w w':=by
 obtain⟨i0,hi,hz0,hz1,hz2⟩:=info_parts zx4
 obtain⟨L,hL⟩:∃L,L=s.data.toList:=⟨_,rfl⟩
 have hLl:L.length=s.size:=by rw[hL];simp
 rw[←hL]
 have hsb:s=bs L:=by rw[hL,zoa]
 have hLb:L.length≤100000000:=by omega
 clear hLl hL hs
 subst hsb
 have HB:=hid hB
 have HT:=hid hT
 have HFU:=hid hF
 obtain⟨l1,e1⟩:∃x,rnR L 0=x:=⟨_,rfl⟩
 obtain⟨c1,e2⟩:∃x,rnC L 0=x:=⟨_,rfl⟩
 have hr0:=yma e1 e2
 have hl1:=zb5 L 0
 rw[e1] at hl1
 have N1:=hid (fun b (w:World) h=>zcx E b L 0 w (by omega) h)
 rw[e1,e2] at N1
 have HR0:=hid hr0
 have hml:=zw7 L 0
 generalize rnN L 0=many at *
 have HEZ:=hid (zaj E)
 have HNN:=hid hN
 have HOO:=hid hO
 clear e1 e2 hr0 hB hT hF hN hO
 have R0:RAt E (w.alloc (.cells #[.string (bs L),.nilIface] 297)) w.heap.size L 0:=by unfold RAt;rw[zaj];exact heap_alloc_new _ _
 have b0:=zaf w (.cells #[.string (bs L),.nilIface] 297)
 go_enter Tryz.func247,Tryz.ntmps247
 go_wp2_with fail
 refine(N1.out _ _ R0 (HT.out.below b0) (HB.out.below b0)).mono ?_
 rintro e w1⟨rfl,R1,g1⟩
 have b1:=b0.grown g1 b0.size (fun k hk=>by cases hk;exact Nat.le_refl _)
 have hb:w.heap.size≤w.heap.size:=Nat.le_refl _
 clear R0 b0 g1
 go_wp2_with fail
 go_loopw [7,6,8,9,10] (fun i o _ _ _ wr=>∃(k:Nat)(out:List PL)(l:List UInt8)(c:Nat),i=.int .i64 k∧k≤many∧out.length=k∧out.length≤L.length+1∧(c=0→out.length+l.length≤L.length)∧l.length≤L.length∧(∀x∈out,x.n.length≤20000)∧
   rl0 L=zg4 (many - k) l c out∧RAt E wr w.heap.size l c∧wr.ownsRow (w.heap.size+1) 173 3 o k (zau out)∧Below w.heap.size w wr) (fun i _ _ _ _ _=>many - (intOf i).toNat)
 case atStart=>exact⟨0,[],l1,c1,rfl,by omega,rfl,by simp,fun _=>by simp;omega,by omega,by simp,HR0.out,R1,by rw[zic];exact World.ownsRow_nil _ _ _ _,b1⟩
 case round=>
  clear R1 b1
  obtain⟨k,out,l,c,rfl,hk,hok,ho1,ho2,hll,hnm,hrd,R,hown,bel⟩:=hrel
  have HNM:=hid hnm
  have HRD:=hid hrd
  have HOK:=hid hok
  have HO2:=hid ho2
  obtain⟨r0,r1⟩:=R.cs
  clear hrd hok ho2 hnm
  by_cases hgo:k<many∧c=0
  ·obtain⟨hlt,rfl⟩:=hgo
   have hltI:(k:Int)<many:=by omega
   rw[zaj] at r1
   obtain⟨m1,f1⟩:∃x,rtR l 0=x:=⟨_,rfl⟩
   obtain⟨d1,f2⟩:∃x,rtC l 0=x:=⟨_,rfl⟩
   obtain⟨m2,f3⟩:∃x,rnR m1 d1=x:=⟨_,rfl⟩
   obtain⟨d2,f4⟩:∃x,rnC m1 d1=x:=⟨_,rfl⟩
   obtain⟨m3,f5⟩:∃x,rnR m2 d2=x:=⟨_,rfl⟩
   obtain⟨d3,f6⟩:∃x,rnC m2 d2=x:=⟨_,rfl⟩
   have hblk:=zuz l m1 m2 d1 d2 f1 f2 f3 f4
   rw[f5,f6] at hblk
   have hstep:=HRD.out.trans (zmd (by omega) l out)
   have hshort:=yi3 l
   have hlm1:=zuv l 0
   have hlm2:=zb5 m1 d1
   have hlm3:=zb5 m2 d2
   rw[f1] at hlm1
   rw[f3] at hlm2
   rw[f5] at hlm3
   have P1:=hid (fun b (w:World) h=>zfj E b l 0 w (by omega) h)
   have P2:=hid (fun b (w:World) h=>zcx E b m1 d1 w (by omega) h)
   have P3:=hid (fun b (w:World) h=>zcx E b m2 d2 w (by omega) h)
   rw[f1,f2] at P1
   rw[f3,f4] at P2
   rw[f5,f6] at P3
   rw[hblk] at hstep hshort
   simp only[] at hstep hshort
   have hx1:=yqp l 0
   generalize rtT l 0=x1 at *
   generalize rnN m1 d1=x2 at *
   generalize rnN m2 d2=x3 at *
   have HSTEP:=hid hstep
   have HSH:=hid hshort
   have KK:=hid (show k+1≤many∧many - (k+1)=many - k - 1 by omega)
   have HO3:=hid (HO2.out rfl)
   clear f1 f2 f3 f4 f5 f6 hblk hstep hshort
   have hsz0:=R.lt
   go_wp2_with fail
   refine(P1.out _ _ R (HT.out.below bel) (HB.out.below bel)).mono ?_
   rintro e v1⟨rfl,R1,g1⟩
   have bel1:=bel.grown g1 bel.size (fun k hk=>by cases hk;exact Nat.le_refl _)
   have hown1:=zbp hown (Nat.lt_succ_self _) g1
   clear R bel g1 hown r0 r1
   go_wp2_with fail
   refine(P2.out _ _ R1 (HT.out.below bel1) (HB.out.below bel1)).mono ?_
   rintro e v2⟨rfl,R2,g2⟩
   have bel2:=bel1.grown g2 bel1.size (fun k hk=>by cases hk;exact Nat.le_refl _)
   have hown2:=zbp hown1 (Nat.lt_succ_self _) g2
   clear R1 bel1 g2 hown1
   go_wp2_with fail
   refine(P3.out _ _ R2 (HT.out.below bel2) (HB.out.below bel2)).mono ?_
   rintro e v3⟨rfl,R3,g3⟩
   have bel3:=bel2.grown g3 bel2.size (fun k hk=>by cases hk;exact Nat.le_refl _)
   have hown3:=zbp hown2 (Nat.lt_succ_self _) g3
   clear R2 bel2 g3 hown2
   obtain⟨r0,r1⟩:=R3.cs
   have fz:=R3.fz 1
   have t1:v3.cell? ⟨1,0,none⟩=some (za0 (E 1)):=HT.out.below bel3
   unfold za0 at t1
   have hsz3:=R3.lt
   by_cases hd:d3=0
   ·subst hd
    rw[zaj] at r1
    by_cases hx:4294967295<x3
    ·have hxI:(4294967295:Int)<x3:=by omega
     have R4:=hid (R3.set1 1 _ (za9 E (c:=1) (by decide)).symm)
     unfold za0 at R4
     have hs:=HSTEP.out
     rw[if_pos ⟨rfl,hx⟩] at hs
     have HS:=hid hs
     clear hs HSTEP HSH
     have OWN:=hid (zbp hown3 (Nat.lt_succ_self _) (zap v3 w.heap.size 1 (.iface 338 (.pointer (some (E 1))))))
     have RR:=R4
     have HSZ3:=hid hsz3
     have BELX:=bel3.setCell (p:=⟨w.heap.size,1,none⟩) (Nat.le_refl _) (.iface 338 (.pointer (some (E 1))))
     have HM1:Hid (k+1≤maxLen):=by show _≤_;unfold maxLen;omega
     have HM2:Hid ((k+1) * 32≤140737488355328):=by show _≤_;have:=HOK.out;omega
     have HM3:Hid (w.heap.size+1≤((v3.setCell ⟨w.heap.size,1,none⟩ (.iface 338 (.pointer (some (E 1))))).alloc (.cells #[.string (bs x1),.int .i64 x2,.int .u32 ((x3:Int) % 4294967296)] 173)).heap.size):=by show _≤_;have:=BELX.size;have:=HSZ3.out;simp;omega
     have NEWH:Hid (((v3.setCell ⟨w.heap.size,1,none⟩ (.iface 338 (.pointer (some (E 1))))).alloc (.cells #[.string (bs x1),.int .i64 x2,.int .u32 ((x3:Int) % 4294967296)] 173)).heap[v3.heap.size]?=some (.cells #[.string (bs x1),.int .i64 x2,.int .u32 ((x3:Int) % 4294967296)] 173 (0,0))):=by
      have h:=heap_alloc_new (v3.setCell ⟨w.heap.size,1,none⟩ (.iface 338 (.pointer (some (E 1))))) (.cells #[.string (bs x1),.int .i64 x2,.int .u32 ((x3:Int) % 4294967296)] 173)
      have e:(v3.setCell ⟨w.heap.size,1,none⟩ (.iface 338 (.pointer (some (E 1))))).heap.size=v3.heap.size:=by simp
      rw[e] at h
      exact h
     go_wp2_with (at_builtin;refine wpList_append_own _ rfl _ _ 169 rfl (w.heap.size+1) 173 i0 _ 3 32 Tryz.underlying169 hi hz0 hz1 hz2 rfl (by decide) _ _ _ rfl (OWN.out.alloc _) ⟨v3.heap.size,0,none⟩ 1 1 [.string (bs x1),.int .i64 x2,.int .u32 ((x3:Int) % 4294967296)] rfl rfl (zd0 NEWH.out) (fun u hu=>by simp at hu;rcases hu with rfl|rfl|rfl<;>rfl) HM1.out HM2.out HM3.out ?_;intro v' v5 hown' hgrow _)
     have bel5:=(BELX.alloc BELX.size (.cells #[.string (bs x1),.int .i64 x2,.int .u32 ((x3:Int) % 4294967296)] 173)).grown hgrow (by have:=BELX.size;simp;omega) (fun j hj=>by have:=(OWN.out.lt j hj).1;omega)
     have hne:some w.heap.size≠Value.ownBlock u6:=fun e=>by have:=(OWN.out.lt _ e.symm).1;omega
     have R5:=(RAt.below RR.out (zaf _ (.cells #[.string (bs x1),.int .i64 x2,.int .u32 ((x3:Int) % 4294967296)] 173))).grown hgrow hne
     have hcells:zau (out++[⟨x1,x2,x3 % 4294967296⟩])=zau out++[.string (bs x1),.int .i64 x2,.int .u32 ((x3:Int) % 4294967296)]:=by
      rw[zdr,zkv];simp
     go_roundw
     case rel=>exact⟨k+1,out++[⟨x1,x2,x3 % 4294967296⟩],m3,1,by go_num,KK.out.1,by simp[HOK.out],by have:=HO3.out;simp;omega,(fun h=>absurd h (by decide)),by omega,(fun x hx=>by rcases List.mem_append.1 hx with hx|hx;exact HNM.out x hx;rw[List.mem_singleton] at hx;subst hx;exact hx1),by rw[KK.out.2];exact HS.out,R5,by rw[hcells];exact hown',bel5⟩
     case measure=>simp[intOf];omega
    ·have hxI:¬(4294967295:Int)<x3:=by omega
     have hs:=HSTEP.out
     rw[if_neg (fun h=>hx h.2)] at hs
     have hs2:=HSH.out
     rw[if_neg (fun h=>hx h.2)] at hs2
     have HS:=hid hs
     have HS2:=hid (hs2 rfl)
     clear hs hs2 HSTEP HSH
     have OWN:=hid hown3
     have RR:=hid R3
     have HSZ3:=hid hsz3
     have hx3:x3 % 4294967296=x3:=by omega
     have HX3:=hid hx3
     clear hx3
     have HM1:Hid (k+1≤maxLen):=by show _≤_;unfold maxLen;omega
     have HM2:Hid ((k+1) * 32≤140737488355328):=by show _≤_;have:=HOK.out;omega
     have HM3:Hid (w.heap.size+1≤(v3.alloc (.cells #[.string (bs x1),.int .i64 x2,.int .u32 (x3:Int)] 173)).heap.size):=by show _≤_;have:=bel3.size;have:=HSZ3.out;simp;omega
     go_wp2_with (at_builtin;refine wpList_append_own _ rfl _ _ 169 rfl (w.heap.size+1) 173 i0 _ 3 32 Tryz.underlying169 hi hz0 hz1 hz2 rfl (by decide) _ _ _ rfl (OWN.out.alloc _) ⟨v3.heap.size,0,none⟩ 1 1 [.string (bs x1),.int .i64 x2,.int .u32 (x3:Int)] rfl rfl (zd0 (heap_alloc_new _ _)) (fun u hu=>by simp at hu;rcases hu with rfl|rfl|rfl<;>rfl) HM1.out HM2.out HM3.out ?_;intro v' v5 hown' hgrow _)
     have bel5:=(bel3.alloc bel3.size (.cells #[.string (bs x1),.int .i64 x2,.int .u32 (x3:Int)] 173)).grown hgrow (by have:=bel3.size;simp;omega) (fun j hj=>by have:=(OWN.out.lt j hj).1;omega)
     have hne:some w.heap.size≠Value.ownBlock u6:=fun e=>by have:=(OWN.out.lt _ e.symm).1;omega
     have R5:=(RAt.below RR.out (zaf _ (.cells #[.string (bs x1),.int .i64 x2,.int .u32 (x3:Int)] 173))).grown hgrow hne
     have hcells:zau (out++[⟨x1,x2,x3 % 4294967296⟩])=zau out++[.string (bs x1),.int .i64 x2,.int .u32 (x3:Int)]:=by
      rw[zdr,zkv];rw[HX3.out]
     go_roundw
     case rel=>exact⟨k+1,out++[⟨x1,x2,x3 % 4294967296⟩],m3,0,by go_num,KK.out.1,by simp[HOK.out],by have:=HO3.out;simp;omega,(fun _=>by have:=HS2.out;have:=HO3.out;simp;omega),by omega,(fun x hx=>by rcases List.mem_append.1 hx with hx|hx;exact HNM.out x hx;rw[List.mem_singleton] at hx;subst hx;exact hx1),by rw[KK.out.2];exact HS.out,R5,by rw[hcells];exact hown',bel5⟩
     case measure=>simp[intOf];omega
   ·have hs:=HSTEP.out
    rw[if_neg (fun h=>hd h.1)] at hs
    have HS:=hid hs
    have HD:=hid hd
    have hev:=za9 E hd
    rw[hev] at r1
    unfold za0 at r1
    clear hs HSTEP HSH hd hev
    have OWN:=hid hown3
    have RR:=hid R3
    have HSZ3:=hid hsz3
    have HM1:Hid (k+1≤maxLen):=by show _≤_;unfold maxLen;omega
    have HM2:Hid ((k+1) * 32≤140737488355328):=by show _≤_;have:=HOK.out;omega
    have HM3:Hid (w.heap.size+1≤(v3.alloc (.cells #[.string (bs x1),.int .i64 x2,.int .u32 ((x3:Int) % 4294967296)] 173)).heap.size):=by show _≤_;have:=bel3.size;have:=HSZ3.out;simp;omega
    go_wp2_with (at_builtin;refine wpList_append_own _ rfl _ _ 169 rfl (w.heap.size+1) 173 i0 _ 3 32 Tryz.underlying169 hi hz0 hz1 hz2 rfl (by decide) _ _ _ rfl (OWN.out.alloc _) ⟨v3.heap.size,0,none⟩ 1 1 [.string (bs x1),.int .i64 x2,.int .u32 ((x3:Int) % 4294967296)] rfl rfl (zd0 (heap_alloc_new _ _)) (fun u hu=>by simp at hu;rcases hu with rfl|rfl|rfl<;>rfl) HM1.out HM2.out HM3.out ?_;intro v' v5 hown' hgrow _)
    have bel5:=(bel3.alloc bel3.size (.cells #[.string (bs x1),.int .i64 x2,.int .u32 ((x3:Int) % 4294967296)] 173)).grown hgrow (by have:=bel3.size;simp;omega) (fun j hj=>by have:=(OWN.out.lt j hj).1;omega)
    have hne:some w.heap.size≠Value.ownBlock u6:=fun e=>by have:=(OWN.out.lt _ e.symm).1;omega
    have R5:=(RAt.below RR.out (zaf _ (.cells #[.string (bs x1),.int .i64 x2,.int .u32 ((x3:Int) % 4294967296)] 173))).grown hgrow hne
    have hcells:zau (out++[⟨x1,x2,x3 % 4294967296⟩])=zau out++[.string (bs x1),.int .i64 x2,.int .u32 ((x3:Int) % 4294967296)]:=by
     rw[zdr,zkv];simp
    go_roundw
    case rel=>exact⟨k+1,out++[⟨x1,x2,x3 % 4294967296⟩],m3,d3,by go_num,KK.out.1,by simp[HOK.out],by have:=HO3.out;simp;omega,(fun h=>absurd h HD.out),by omega,(fun x hx=>by rcases List.mem_append.1 hx with hx|hx;exact HNM.out x hx;rw[List.mem_singleton] at hx;subst hx;exact hx1),by rw[KK.out.2];exact HS.out,R5,by rw[hcells];exact hown',bel5⟩
    case measure=>simp[intOf];omega
  ·have hEX:rl0 L=(out,l,c):=by
    rw[HRD.out]
    by_cases hc:c=0
    ·have:many - k=0:=by omega
     rw[this,zoh]
    ·exact zzk _ _ hc _
   have HEX:=hid hEX
   clear hEX
   have WAYS:¬(k:Int)<many∨(k:Int)<many∧c≠0:=by omega
   have EN:=hid (zh1 E w.heap.size l c wr R (HT.out.below bel))
   clear hgo
   obtain⟨A,cap,rfl⟩:=zab hown
   have WAYS2:¬(k:Int)<many∨(k:Int)<many∧∃x,ev E c=.iface 338 x:=by
    rcases WAYS with h|⟨h,hc⟩
    ·exact .inl h
    ·exact .inr ⟨h,_,zep E hc⟩
   clear WAYS
   rcases WAYS2 with h|⟨h,x,hx⟩
   all_goals
    try rw[hx] at r1
    try clear hx
    go_wp2_with fail
    refine EN.out.mono ?_
    rintro e v4⟨rfl,R4,g4⟩
    have bel4:=bel.grown g4 bel.size (fun k hk=>by cases hk;exact Nat.le_refl _)
    have hown4:=zbp hown (Nat.lt_succ_self _) g4
    clear bel g4 hown R R4 r0 r1
    by_cases he:zg6 l c=0
    ·have CK:=zgz E out (.slice A k cap) v4 (SliceIs.ownedK hown4) (fun x hx=>by have:=HNM.out x hx;unfold maxLen;omega) (by omega) (HB.out.below bel4) (HNN.out.below bel4) (HFU.out.below bel4) (HOO.out.below bel4)
     have HCK:=hid CK
     clear CK
     by_cases hcode:(zbb out).1=0
     ·have hr:=zsb HEX.out he hcode
      have HR:=hid hr
      have HC:=hid hcode
      rw[he,zaj]
      clear hr he hcode
      go_wp2_with fail
      refine HCK.out.mono ?_
      rintro e v5⟨v,rfl,fe,b5⟩
      rw[HC.out] at fe
      rw[fe.zero]
      clear fe
      go_wp2_with fail
      go_ret2
      refine⟨_,by rw[HR.out,zaj];rfl,?_,zaa bel4 b5⟩
      rw[HR.out]
      simp only[]
      rw[HOK.out]
      exact zhj (zad hown4 b5) (by omega)
     ·have hr:=zzs HEX.out he hcode
      have HR:=hid hr
      have HC:=hid hcode
      rw[he,zaj]
      clear hr he hcode
      go_wp2_with fail
      refine HCK.out.mono ?_
      rintro e v5⟨v,rfl,fe,b5⟩
      have BA:=hid (zrl E v _ _ v5 fe)
      obtain⟨t,p,hv⟩:=fe.some HC.out
      rw[hv] at BA ⊢
      clear fe hv
      go_wp2_with fail
      refine BA.out.mono ?_
      rintro e v6⟨rfl,rfl⟩
      go_wp2_with fail
      go_ret2
      refine⟨.slice none 0 0,by rw[HR.out];rfl,?_,zaa bel4 b5⟩
      rw[HR.out]
      simp only[]
      rw[zic]
      exact World.ownsRow_nil _ _ _ _
    ·have HR:=hid (zzr HEX.out he)
     have hev:=za9 E he
     rw[hev]
     have HEV:=hid hev
     unfold za0 at HEV ⊢
     clear hev he
     go_wp2_with fail
     go_ret2
     refine⟨.slice none 0 0,by rw[HR.out,HEV.out];rfl,?_,bel4⟩
     rw[HR.out]
     simp only[]
     rw[zic]
     exact World.ownsRow_nil _ _ _ _
theorem ydk(x:PL)(more:List UInt8)(h:x.n.length≤12∧0≤x.N∧x.N≤4000)(hS:x.S<4294967296):ydl ((num x.n.length++x.n)++num x.N.toNat++num x.S++more)=(x,more,0):=by
 obtain⟨h1,h2,h3⟩:=h
 have e:(num x.n.length++x.n)++num x.N.toNat++num x.S++more=num x.n.length++x.n++(num x.N.toNat++(num x.S++more)):=by simp
 rw[e]
 obtain⟨t1,t2,t3⟩:=zrv x.n (num x.N.toNat++(num x.S++more)) (by omega)
 obtain⟨z1,z2,z3⟩:=zc7 (num x.n.length++x.n++(num x.N.toNat++(num x.S++more)))
 rw[t2] at z1
 rw[t3] at z2
 rw[t1] at z3
 obtain⟨q1,q2,q3⟩:=zf9 x.N.toNat (num x.S++more) (by omega)
 obtain⟨r1,r2,r3⟩:=zf9 x.S more (by omega)
 rw[zuz _ _ _ _ _ z2 z3 q2 q3,z1,q1,r1,r2,r3]
 rw[if_neg (by omega)]
 have e2:((x.N.toNat:Nat):Int)=x.N:=by omega
 have e3:x.S % 4294967296=x.S:=by omega
 rw[e2,e3]
theorem zmc:∀(l:List PL)(out:List PL)(more:List UInt8),(∀x∈l,x.n.length≤12∧0≤x.N∧x.N≤4000)→(∀x∈l,x.S<4294967296)→zg4 l.length (zdq l++more) 0 out=(out++l,more,0)
 | [],out,more,_,_=>by simp[zov,zoh]
 | b::l,out,more,h,hS=>by
  rw[zm7,List.append_assoc]
  rw[zmd (by simp),ydk b _ (h b (by simp)) (hS b (by simp))]
  simp only[List.length_cons,Nat.add_sub_cancel]
  rw[zmc l _ more (fun x hx=>h x (by simp[hx])) (fun x hx=>hS x (by simp[hx]))]
  simp
theorem zmf(l:List PL)(hc:LWF l)(hS:∀b∈l,b.S<4294967296):zex (zey l)=(l,0):=by
 have hfew:=hc.few
 have e:zey l=num l.length++(zdq l++[]):=by rw[znk];simp
 obtain⟨p1,p2,p3⟩:=zf9 l.length (zdq l++[]) (by omega)
 have hr:rl0 (zey l)=(l,[],0):=by
  rw[e,yma p2 p3,p1,zmc l [] [] (fun x hx=>by have h:=hc.each x hx;exact⟨((zbi _).1 h.1).2.1,h.2.1,h.2.2⟩) hS];simp
 exact zsb hr ze0 ((zd6 l).2 hc)
theorem FWF.lines{l:List PF}(h:FWF l):LWF (l.map PF.line):=
 ⟨by rw[List.length_map];exact h.few,fun x hx=>by
  obtain⟨f,hf,rfl⟩:=List.mem_map.1 hx
  obtain⟨h1,h2⟩:=h.each f hf
  exact⟨h1,by show(0:Int)≤f.d.length;omega,by show(f.d.length:Int)≤4000;omega⟩,List.pairwise_map.2 h.sorted⟩
theorem znb(l:List PF):∀x∈l.map PF.line,x.S<4294967296:=by
 intro x hx
 obtain⟨f,_,rfl⟩:=List.mem_map.1 hx
 exact zdv _
def yr1(l m:List PF)(s:PS):Prop:=
 (s.k=zaz∧∃u,zaq l s.n=some u∧∀v,zaq m s.n=some v→u≠v)∨(s.k=zg7∧∃u v,zaq l s.n=some u∧zaq m s.n=some v∧u.length=v.length)∨(s.k=zds∧zaq l s.n=none∧∃v,zaq m s.n=some v)
theorem zyy{l m:List PF}(hl:FWF l)(hm:FWF m):∀s∈zb3 (l.map PF.line) (m.map PF.line),yr1 l m s:=by
 intro s hs
 have P:=zgb hl.lines.sorted hm.lines.sorted
 rcases P.of s hs with⟨h1,x,hx,h2,h3⟩|⟨h1,x,hx,h2,h3⟩|⟨h1,⟨y,hy,h2⟩,h3⟩
 ·obtain⟨f,hf,rfl⟩:=List.mem_map.1 hx
  have hn:f.n=s.n:=h2
  refine .inl ⟨h1,f.d,by rw[←hn];exact zej hl.sorted hf,fun v hv e=>h3 ?_⟩
  have:=zbn hv
  rw[←e,←hn] at this
  exact List.mem_map.2 ⟨_,this,rfl⟩
 ·obtain⟨f,hf,rfl⟩:=List.mem_map.1 hx
  obtain⟨g,hg,e⟩:=List.mem_map.1 h3
  have hn:f.n=s.n:=h2
  have e1:g.n=f.n:=congrArg PL.n e
  have e2:(g.d.length:Int)=f.d.length:=congrArg PL.N e
  exact .inr (.inl ⟨h1,f.d,g.d,by rw[←hn];exact zej hl.sorted hf,by rw[←hn,←e1];exact zej hm.sorted hg,by omega⟩)
 ·obtain⟨g,hg,rfl⟩:=List.mem_map.1 hy
  have hn:g.n=s.n:=h2
  refine .inr (.inr ⟨h1,?_,g.d,by rw[←hn];exact zej hm.sorted hg⟩)
  cases e:zaq l s.n with
  | none=>rfl
  | some d=>exact absurd rfl (h3 _ (List.mem_map.2 ⟨_,zbn e,rfl⟩))
def Sr(l:List PF):Prop:=l.Pairwise fun a b=>ltL a.n b.n=true
theorem Sr.inj{l:List PF}(h:Sr l){f g:PF}(hf:f∈l)(hg:g∈l)(e:f.n=g.n):f=g:=by
 have h1:=zej h hf
 have h2:=zej h hg
 rw[e,h2] at h1
 cases f;cases g
 simp only[] at e h1
 injection h1 with h1
 rw[e,h1]
theorem ydw{l:List PF}(hs:Sr l)(n d:List UInt8)(g:PF):g∈zal l n d↔g=⟨n,d⟩∨(g∈l∧g.n≠n):=by
 induction l with
 | nil=>simp[zal]
 | cons f l ih=>
  have hp:=List.pairwise_cons.1 hs
  unfold zal
  by_cases h1:f.n=n
  ·rw[if_pos h1]
   constructor
   ·intro h
    rcases List.mem_cons.1 h with h|h
    ·exact .inl h
    ·exact .inr ⟨List.mem_cons_of_mem _ h,by rw[←h1];exact fun e=>zbm (hp.1 g h) e.symm⟩
   ·rintro(h|⟨h,hn⟩)
    ·rw[h];simp
    ·rcases List.mem_cons.1 h with h|h
     ·rw[h] at hn;exact absurd h1 hn
     ·exact List.mem_cons_of_mem _ h
  ·rw[if_neg h1]
   by_cases h2:ltL n f.n=true
   ·rw[if_pos h2]
    constructor
    ·intro h
     rcases List.mem_cons.1 h with h|h
     ·exact .inl h
     ·refine .inr ⟨h,?_⟩
      rcases List.mem_cons.1 h with h|h
      ·rw[h];exact h1
      ·exact fun e=>zbm (zbq h2 (hp.1 g h)) e.symm
    ·rintro(h|⟨h,hn⟩)
     ·rw[h];simp
     ·exact List.mem_cons_of_mem _ h
   ·rw[if_neg h2]
    constructor
    ·intro h
     rcases List.mem_cons.1 h with h|h
     ·rw[h];exact .inr ⟨by simp,h1⟩
     ·rcases(ih hp.2).1 h with h|⟨h,hn⟩
      ·exact .inl h
      ·exact .inr ⟨List.mem_cons_of_mem _ h,hn⟩
    ·rintro(h|⟨h,hn⟩)
     ·exact List.mem_cons_of_mem _ ((ih hp.2).2 (.inl h))
     ·rcases List.mem_cons.1 h with h|h
      ·rw[h];simp
      ·exact List.mem_cons_of_mem _ ((ih hp.2).2 (.inr ⟨h,hn⟩))
def zb6(q:List PS)(l:List PF):List PF:=q.foldl (fun l s=>if s.k=zds then zda l s.n else l) l
theorem zv0{p:List PS}{k:Nat}(h:k<p.length)(e:p[k].k=zds)(l:List PF):zb6 (p.take (k+1)) l=zda (zb6 (p.take k) l) p[k].n:=by
 unfold zb6;rw[List.take_succ_eq_append_getElem h,List.foldl_append];simp[e]
theorem zto{p:List PS}{k:Nat}(h:k<p.length)(e:p[k].k≠zds)(l:List PF):zb6 (p.take (k+1)) l=zb6 (p.take k) l:=by
 unfold zb6;rw[List.take_succ_eq_append_getElem h,List.foldl_append];simp[e]
theorem FWF.drops(q:List PS):∀{l:List PF},FWF l→FWF (zb6 q l):=by
 induction q with
 | nil=>intro l h;exact h
 | cons s q ih=>
  intro l h
  show FWF (zb6 q (if s.k=zds then zda l s.n else l))
  apply ih
  split
  ·exact h.filter _
  ·exact h
theorem zg1(q:List PS):∀(l:List PF)(f:PF),f∈zb6 q l↔f∈l∧∀s∈q,s.k=zds→s.n≠f.n:=by
 induction q with
 | nil=>intro l f;simp[zb6]
 | cons s q ih=>
  intro l f
  show f∈zb6 q (if s.k=zds then zda l s.n else l)↔_
  rw[ih]
  by_cases h:s.k=zds
  ·rw[if_pos h]
   unfold zda
   rw[List.mem_filter]
   constructor
   ·rintro⟨⟨h1,h2⟩,h3⟩
    refine⟨h1,fun t ht hk=>?_⟩
    rcases List.mem_cons.1 ht with rfl|ht
    ·intro e;rw[e] at h2;simp at h2
    ·exact h3 t ht hk
   ·rintro⟨h1,h2⟩
    exact⟨⟨h1,by have:=h2 s (by simp) h;simpa using fun e=>this e.symm⟩,fun t ht hk=>h2 t (by simp[ht]) hk⟩
  ·rw[if_neg h]
   constructor
   ·rintro⟨h1,h2⟩
    refine⟨h1,fun t ht hk=>?_⟩
    rcases List.mem_cons.1 ht with rfl|ht
    ·exact absurd hk h
    ·exact h2 t ht hk
   ·rintro⟨h1,h2⟩
    exact⟨h1,fun t ht hk=>h2 t (by simp[ht]) hk⟩
def zax(l:List PF)(n:List UInt8):List UInt8:=(zaq l n).getD []
def zjp(c:List PF)(q:List PS)(l:List PF):List PF:=q.foldl (fun l s=>if s.k=zaz then zal l s.n (zax c s.n) else l) l
structure Keeps(c l:List PF):Prop where
 wf:FWF l
 names:∀f∈l,∃x∈c,x.n=f.n
theorem Keeps.put{c l:List PF}(hc:FWF c)(h:Keeps c l){n u:List UInt8}(hu:zaq c n=some u):Keeps c (zal l n u):=by
 have hm:=zbn hu
 obtain⟨h1,h2⟩:=hc.each _ hm
 have hnm:∀f∈zal l n u,∃x∈c,x.n=f.n:=fun f hf=>by
  rcases(ydw h.wf.sorted n u f).1 hf with rfl|⟨hf,_⟩
  ·exact⟨_,hm,rfl⟩
  ·exact h.names f hf
 have hlen:(zal l n u).length≤20:=by
  have:=zsv (zm1 (zhr n u h.wf.sorted)) (b:=c.map PF.n) (fun y hy=>by
   obtain⟨f,hf,rfl⟩:=List.mem_map.1 hy
   obtain⟨x,hx,e⟩:=hnm f hf
   exact List.mem_map.2 ⟨x,hx,e⟩)
  rw[List.length_map,List.length_map] at this
  exact Nat.le_trans this hc.few
 exact⟨h.wf.put h1 h2 hlen,hnm⟩
theorem zz3{c l:List PF}(hc:FWF c)(hl:Keeps c l):∀(q:List PS),(∀s∈q,s.k=zaz→∃u,zaq c s.n=some u)→Keeps c (zjp c q l)∧∀f,f∈zjp c q l↔(∃s∈q,s.k=zaz∧f=⟨s.n,zax c s.n⟩)∨(f∈l∧∀s∈q,s.k=zaz→s.n≠f.n):=by
 intro q
 induction q generalizing l with
 | nil=>intro _;exact⟨hl,fun f=>by simp[zjp]⟩
 | cons s q ih=>
  intro hq
  have hq':∀t∈q,t.k=zaz→∃u,zaq c t.n=some u:=fun t ht=>hq t (by simp[ht])
  show Keeps c (zjp c q (if s.k=zaz then zal l s.n (zax c s.n) else l))∧∀f,f∈zjp c q (if s.k=zaz then zal l s.n (zax c s.n) else l)↔_
  by_cases h:s.k=zaz
  ·rw[if_pos h]
   obtain⟨u,hu⟩:=hq s (by simp) h
   have hd:zax c s.n=u:=by unfold zax;rw[hu];rfl
   obtain⟨h1,h2⟩:=ih (by rw[hd];exact hl.put hc hu:Keeps c (zal l s.n (zax c s.n))) hq'
   refine⟨h1,fun f=>?_⟩
   rw[h2,ydw hl.wf.sorted]
   constructor
   ·rintro(⟨t,ht,hk,e⟩|⟨rfl|⟨hf,hn⟩,h3⟩)
    ·exact .inl ⟨t,by simp[ht],hk,e⟩
    ·exact .inl ⟨s,by simp,h,rfl⟩
    ·refine .inr ⟨hf,fun t ht hk=>?_⟩
     rcases List.mem_cons.1 ht with rfl|ht
     ·exact fun e=>hn e.symm
     ·exact h3 t ht hk
   ·rintro(⟨t,ht,hk,e⟩|⟨hf,h3⟩)
    ·rcases List.mem_cons.1 ht with rfl|ht
     ·by_cases hx:∃t'∈q,t'.k=zaz∧t'.n=t.n
      ·obtain⟨t',ht',hk',e'⟩:=hx
       exact .inl ⟨t',ht',hk',by rw[e',e]⟩
      ·exact .inr ⟨.inl e,fun t' ht' hk' e'=>hx ⟨t',ht',hk',by rw[e',e]⟩⟩
     ·exact .inl ⟨t,ht,hk,e⟩
    ·exact .inr ⟨.inr ⟨hf,fun e=>h3 s (by simp) h e.symm⟩,fun t ht hk=>h3 t (by simp[ht]) hk⟩
  ·rw[if_neg h]
   obtain⟨h1,h2⟩:=ih hl hq'
   refine⟨h1,fun f=>?_⟩
   rw[h2]
   constructor
   ·rintro(⟨t,ht,hk,e⟩|⟨hf,h3⟩)
    ·exact .inl ⟨t,by simp[ht],hk,e⟩
    ·refine .inr ⟨hf,fun t ht hk=>?_⟩
     rcases List.mem_cons.1 ht with rfl|ht
     ·exact absurd hk h
     ·exact h3 t ht hk
   ·rintro(⟨t,ht,hk,e⟩|⟨hf,h3⟩)
    ·rcases List.mem_cons.1 ht with rfl|ht
     ·exact absurd hk h
     ·exact .inl ⟨t,ht,hk,e⟩
    ·exact .inr ⟨hf,fun t ht hk=>h3 t (by simp[ht]) hk⟩
theorem zs1{p q:List PL}(hp:Srt p)(hq:Srt q)(h:∀s,s∈p↔s∈q):p=q:=by
 induction p generalizing q with
 | nil=>
  cases q with
  | nil=>rfl
  | cons s q=>have:=(h s).2 (by simp);cases this
 | cons s p ih=>
  cases q with
  | nil=>have:=(h s).1 (by simp);cases this
  | cons r q=>
   have hp':=Srt.cons.1 hp
   have hq':=Srt.cons.1 hq
   have e:s=r:=by
    rcases List.mem_cons.1 ((h s).1 (by simp)) with e|e
    ·exact e
    ·rcases List.mem_cons.1 ((h r).2 (by simp)) with e2|e2
     ·exact e2.symm
     ·have a:=hq'.1 s e
      have b:=hp'.1 r e2
      rw[zco a] at b;cases b
   subst e
   rw[ih hp'.2 hq'.2 fun u=>?_]
   constructor
   ·intro hu
    rcases List.mem_cons.1 ((h u).1 (List.mem_cons_of_mem _ hu)) with e|e
    ·subst e;exact absurd rfl (zbm (hp'.1 u hu))
    ·exact e
   ·intro hu
    rcases List.mem_cons.1 ((h u).2 (List.mem_cons_of_mem _ hu)) with e|e
    ·subst e;exact absurd rfl (zbm (hq'.1 u hu))
    ·exact e
theorem Srt.inj{l:List PL}(h:Srt l){x y:PL}(hx:x∈l)(hy:y∈l)(e:x.n=y.n):x=y:=by
 induction l with
 | nil=>cases hx
 | cons z l ih=>
  have h':=Srt.cons.1 h
  rcases List.mem_cons.1 hx with e1|hx1<;>rcases List.mem_cons.1 hy with e2|hy1
  ·rw[e1,e2]
  ·rw[e1] at e;exact absurd e (zbm (h'.1 y hy1))
  ·rw[e2] at e;exact absurd e.symm (zbm (h'.1 x hx1))
  ·exact ih h'.2 hx1 hy1
theorem zvz{c t:List PF}(hc:FWF c)(ht:FWF t):Keeps c (zb6 (zb3 (c.map PF.line) (t.map PF.line)) t):=by
 have P:=zgb hc.lines.sorted ht.lines.sorted
 refine⟨ht.drops _,fun f hf=>?_⟩
 obtain⟨h1,h2⟩:=(zg1 _ _ _).1 hf
 by_cases h:∃x∈c,x.n=f.n
 ·exact h
 ·have:=P.drop f.line (List.mem_map.2 ⟨f,h1,rfl⟩) (fun x hx e=>by
   obtain⟨g,hg,rfl⟩:=List.mem_map.1 hx
   exact h ⟨g,hg,e⟩)
  exact absurd rfl (h2 _ this rfl)
theorem ycv{c t:List PF}(hc:FWF c)(ht:FWF t):∀s∈zb3 (c.map PF.line) (t.map PF.line),s.k=zaz→∃u,zaq c s.n=some u:=by
 intro s hs hk
 rcases zyy hc ht s hs with⟨_,u,hu,_⟩|⟨h,_⟩|⟨h,_⟩
 ·exact⟨u,hu⟩
 ·rw[h] at hk;exact absurd hk (by decide)
 ·rw[h] at hk;exact absurd hk (by decide)
theorem yj8{c t:List PF}(hc:FWF c)(ht:FWF t):
  (zjp c (zb3 (c.map PF.line) (t.map PF.line)) (zb6 (zb3 (c.map PF.line) (t.map PF.line)) t)).map PF.line=c.map PF.line:=by
 have P:=zgb hc.lines.sorted ht.lines.sorted
 have SG:=ycv hc ht
 have DK:=zvz hc ht
 generalize hp:zb3 (c.map PF.line) (t.map PF.line)=p at *
 obtain⟨K,M⟩:=zz3 hc DK p SG
 refine zs1 K.wf.lines.sorted hc.lines.sorted fun x=>?_
 constructor
 ·intro hx
  obtain⟨f,hf,rfl⟩:=List.mem_map.1 hx
  rcases(M f).1 hf with⟨s,hs,hk,e⟩|⟨hf,h3⟩
  ·obtain⟨u,hu⟩:=SG s hs hk
   have hm:=zbn hu
   have hd:zax c s.n=u:=by unfold zax;rw[hu];rfl
   rw[e,hd]
   exact List.mem_map.2 ⟨_,hm,rfl⟩
  ·obtain⟨x,hx,e⟩:=DK.names f hf
   obtain⟨hft,_⟩:=(zg1 _ _ _).1 hf
   have hxl:x.line∈c.map PF.line:=List.mem_map.2 ⟨x,hx,rfl⟩
   by_cases hb:x.line∈t.map PF.line
   ·have:=Srt.inj ht.lines.sorted hb (List.mem_map.2 ⟨f,hft,rfl⟩) e
    rw[←this];exact hxl
   ·exact absurd e (h3 _ ((P.all _ hxl).1 hb) rfl)
 ·intro hx
  obtain⟨f,hf,rfl⟩:=List.mem_map.1 hx
  by_cases hb:f.line∈t.map PF.line
  ·obtain⟨g,hg,e⟩:=List.mem_map.1 hb
   have en:g.n=f.n:=congrArg PL.n e
   refine List.mem_map.2 ⟨g,(M g).2 (.inr ⟨(zg1 _ _ _).2 ⟨hg,fun s hs hk hn=>?_⟩,fun s hs hk hn=>?_⟩),e⟩
   ·rcases P.of s hs with⟨h,_⟩|⟨h,_⟩|⟨_,_,h3⟩
    ·rw[h] at hk;exact absurd hk (by decide)
    ·rw[h] at hk;exact absurd hk (by decide)
    ·exact h3 f.line (List.mem_map.2 ⟨f,hf,rfl⟩) (by rw[hn];exact en.symm)
   ·rcases P.of s hs with⟨_,x,hxa,hxn,hxb⟩|⟨h,_⟩|⟨h,_⟩
    ·have:=Srt.inj hc.lines.sorted hxa (List.mem_map.2 ⟨f,hf,rfl⟩) (by rw[hxn,hn];exact en)
     rw[this] at hxb;exact hxb hb
    ·rw[h] at hk;exact absurd hk (by decide)
    ·rw[h] at hk;exact absurd hk (by decide)
  ·have hs:=(P.all _ (List.mem_map.2 ⟨f,hf,rfl⟩)).1 hb
   have hd:zax c f.n=f.d:=by unfold zax;rw[zej hc.sorted hf];rfl
   exact List.mem_map.2 ⟨f,(M f).2 (.inl ⟨_,hs,rfl,by show f=⟨f.n,zax c f.n⟩;rw[hd]⟩),rfl⟩
structure XS where
 fr:List PF
 tt:List PF
 ge:Nat
 net:List (List UInt8×Bool)
 ep:Nat
 sq:Nat
 ask:PFr
 age:Nat
 W:Int
 L:Int
 T:Int
 G:Int
 ln:List PL
 kn:Bool
 fu:List (List UInt8)
 dn:Bool
namespace XS
def put(f:PFr)(x:XS):XS:=if frC f=0 then {x with net:=x.net++[(frT f,false)]} else x
def asks(k:UInt8)(d:List UInt8)(x:XS):XS:=put ⟨k,x.ep,x.sq,d⟩ {x with ask:=⟨k,x.ep,x.sq,d⟩,sq:=(x.sq+1) % 65536,age:=0}
def old(n:List UInt8)(x:XS):List UInt8:=if x.fu.contains n then [] else (zaq x.tt n).getD []
def two(a b:List UInt8):List UInt8:=(num a.length++a)++(num b.length++b)
def want(n:List UInt8)(x:XS):XS:=asks 103 (two n (zla (zeu (za8 (x.old n).length) (x.old n)) (za8 (x.old n).length))) x
def next(x:XS):XS:=
 if x.kn=false then asks 108 [] x
 else match (zb3 x.ln (x.tt.map PF.line)).find? (fun s=>s.k==zaz) with
  | some s=>want s.n x
  | none=>{x with tt:=zb6 (zb3 x.ln (x.tt.map PF.line)) x.tt,dn:=true,ask:=zfr}
def listed(d:List UInt8)(x:XS):XS:=if (zex d).2=0 then {x with ln:=(zex d).1,kn:=true} else x
def room(x:XS):List PF:=if 20≤x.tt.length then x.tt.filter fun f=>x.ln.any fun y=>y.n==f.n else x.tt
def gave(n:List UInt8)(ops:List POp)(y:PL)(x:XS):XS:=
 if (whC (x.old n) (za8 (x.old n).length) ops y.N y.S).1≠0 then {x with fu:=n::x.fu}
 else if (putF x.room n (whL (x.old n) (za8 (x.old n).length) ops y.N y.S)).1=0 then {x with tt:=zal x.room n (whL (x.old n) (za8 (x.old n).length) ops y.N y.S)} else x
def given(d:List UInt8)(x:XS):XS:=
 if zg6 (rtR (rtR d 0) (rtC d 0)) (rtC (rtR d 0) (rtC d 0))≠0 then x
 else if (zhh (rtT (rtR d 0) (rtC d 0))).2≠0 then x
 else match x.ln.find? (fun y=>y.n==rtT d 0) with
  | none=>x
  | some y=>gave (rtT d 0) (zhh (rtT (rtR d 0) (rtC d 0))).1 y x
def good(x:XS):XS:={x with W:=yay x.W x.L x.G,T:=2,G:=yaz x.W x.L x.G}
def bad(x:XS):XS:={x with W:=1,L:=ym0 x.W,T:=ylp x.T,G:=0}
def answered(f:PFr)(x:XS):XS:=
 if x.dn=true∨x.ask.k=0∨f.q≠x.ask.q∨x.ge=0∨f.e≠x.ge then x
 else next (if f.k=109 then listed f.d x.good else given f.d x.good)
def ansG(f:PFr)(x:XS):XS:=
 if zg6 (rtR (rtR f.d 0) (rtC f.d 0)) (rtC (rtR f.d 0) (rtC f.d 0))≠0 then x
 else if (zem (rtT (rtR f.d 0) (rtC f.d 0))).2.2≠0 then x
 else match zaq x.fr (rtT f.d 0) with
  | none=>x
  | some data=>
   let ops:=zc1 (zem (rtT (rtR f.d 0) (rtC f.d 0))).1 (zem (rtT (rtR f.d 0) (rtC f.d 0))).2.1 data
   if (dtC ops).1=0 then put ⟨111,f.e,f.q,two (rtT f.d 0) (dtL ops)⟩ x else x
def answer(f:PFr)(x:XS):XS:=if f.k=108 then put ⟨109,f.e,f.q,zey (x.fr.map PF.line)⟩ x else ansG f x
def come(k:Nat)(x:XS):XS:=
 match x.net[k]? with
 | none=>x
 | some p=>
  let y:={x with net:=x.net.eraseIdx k}
  if (zfe p.1).2≠0 then y
  else if (zfe p.1).1.k=108∨(zfe p.1).1.k=103 then answer (zfe p.1).1 y else answered (zfe p.1).1 y
def tick(x:XS):XS:=
 if x.dn=true∨x.ask.k=0 then x
 else if x.T≤((x.age+1:Nat):Int) then put x.ask {x with age:=0}.bad else {x with age:=x.age+1}
def flip(s:List UInt8)(q:Nat):List UInt8:=s.set (q % (8 * s.length) / 8) ((s[q % (8 * s.length) / 8]?.getD 0) ^^^ (1 <<< UInt8.ofNat (q % (8 * s.length) % 8)))
def turn(q:Nat)(x:XS):XS:=
 match x.net with
 | []=>x
 | p::r=>if p.2=true then x else {x with net:=(flip p.1 q,true)::r}
def begins(x:XS):XS:=
 if x.dn=true then x
 else if 2147483648≤x.ge then x
 else next {x with ge:=x.ge+1,ep:=x.ge+1,sq:=0,ask:=zfr,age:=0,W:=1,L:=32,T:=2,G:=0,ln:=[],kn:=false,fu:=[]}
def start(fr t:List PF):XS:=begins ⟨fr,t,0,[],0,0,zfr,0,1,32,2,0,[],false,[],false⟩
def act(v:Int)(x:XS):XS:=
 if v<0 then x
 else
  let k:=v.toNat % 8;let q:=v.toNat / 8
  if k=6 then x.tick else if k=7 then x.begins
  else if x.net=[] then x
  else if k<3 then x.come (q % x.net.length)
  else if k=3 then {x with net:=x.net.eraseIdx (q % x.net.length)}
  else if k=4 then (if x.net.length<500 then {x with net:=x.net++(x.net[q % x.net.length]?).toList} else x)
  else x.turn q
def comes:Nat→XS→XS
 | 0,x=>x
 | n+1,x=>if x.net=[] then x else comes n (x.come 0)
def fin:Nat→XS→XS
 | 0,x=>x
 | n+1,x=>if x.dn=true then x else fin n (comes x.net.length x).tick
end XS
abbrev GM:=List (List UInt8×Nat)
def glk:GM→List UInt8→Nat
 | [],_=>0
 | p::m,k=>if p.1=k then p.2 else glk m k
def ztc(m:GM)(k:List UInt8):Bool:=m.any fun p=>decide (p.1=k)
def zja:GM→List UInt8→Nat→GM
 | [],k,v=>[(k,v)]
 | p::m,k,v=>if p.1=k then (k,v)::m else p::zja m k v
theorem zq1(m:GM)(k:List UInt8)(v:Nat):glk (zja m k v) k=v:=by
 induction m with
 | nil=>simp[zja,glk]
 | cons p m ih=>
  unfold zja
  by_cases h:p.1=k
  ·rw[if_pos h];simp[glk]
  ·rw[if_neg h];unfold glk;rw[if_neg h];exact ih
theorem yf5(m:GM){k k':List UInt8}(v:Nat)(h:k'≠k):glk (zja m k v) k'=glk m k':=by
 induction m with
 | nil=>
  have h2:k≠k':=fun e=>h e.symm
  simp[zja,glk,h2]
 | cons p m ih=>
  unfold zja
  by_cases hp:p.1=k
  ·rw[if_pos hp]
   unfold glk
   rw[if_neg (fun e=>h (by rw[←e])),if_neg (fun e=>h (by rw[←e,hp]))]
  ·rw[if_neg hp]
   unfold glk
   by_cases hk:p.1=k'
   ·rw[if_pos hk,if_pos hk]
   ·rw[if_neg hk,if_neg hk];exact ih
theorem yf6(m:GM)(k:List UInt8)(v:Nat):ztc (zja m k v) k=true:=by
 induction m with
 | nil=>simp[zja,ztc]
 | cons p m ih=>
  unfold zja
  by_cases h:p.1=k
  ·rw[if_pos h];simp[ztc]
  ·rw[if_neg h]
   unfold ztc at ih ⊢
   rw[List.any_cons,ih];simp
theorem ya1(m:GM){k k':List UInt8}(v:Nat)(h:k'≠k):ztc (zja m k v) k'=ztc m k':=by
 induction m with
 | nil=>
  unfold zja ztc
  have h1:decide (k=k')=false:=by simpa using fun e:k=k'=>h e.symm
  simp only[List.any_cons,h1,List.any_nil,Bool.or_false]
 | cons p m ih=>
  unfold zja
  by_cases hp:p.1=k
  ·rw[if_pos hp]
   unfold ztc
   rw[List.any_cons,List.any_cons]
   have h1:decide (k=k')=false:=by simpa using fun e:k=k'=>h e.symm
   have h2:decide (p.1=k')=false:=by simpa [hp] using fun e:k=k'=>h e.symm
   simp only[h1,h2]
  ·rw[if_neg hp]
   unfold ztc at ih ⊢
   rw[List.any_cons,List.any_cons,ih]
theorem ykk(m:GM)(k:List UInt8)(v:Nat):(zja m k v).map Prod.fst=if ztc m k then m.map Prod.fst else m.map Prod.fst++[k]:=by
 induction m with
 | nil=>simp[zja,ztc]
 | cons p m ih=>
  unfold zja
  by_cases hk:p.1=k
  ·rw[if_pos hk];simp[ztc,hk]
  ·rw[if_neg hk,List.map_cons,ih]
   have e:ztc (p::m) k=ztc m k:=by simp[ztc,hk]
   rw[e]
   split<;>simp
theorem ykj(m:GM)(k:List UInt8)(v:Nat):(zja m k v).length=if ztc m k then m.length else m.length+1:=by
 have:=congrArg List.length (ykk m k v)
 rw[List.length_map] at this
 rw[this]
 split<;>simp
theorem zvo{m:GM}(h:(m.map Prod.fst).Nodup){p:List UInt8×Nat}(hp:p∈m):glk m p.1=p.2:=by
 induction m with
 | nil=>simp at hp
 | cons q m ih=>
  rw[List.map_cons,List.nodup_cons] at h
  unfold glk
  rcases List.mem_cons.1 hp with rfl|hp
  ·rw[if_pos rfl]
  ·rw[if_neg (fun e=>h.1 (by rw[e];exact List.mem_map_of_mem hp))]
   exact ih h.2 hp
def GMapIs(w:World)(b n:Nat)(m:GM):Prop:=
 ∃D:DataW Unit,w.ownsMap Tryz.prog 9 (plainElem Tryz.prog 3) b n D∧
  (∀k:List UInt8,Maps.has D (.string k)=ztc m k∧D.atKey (.string k) (.lit (.int .i64 0))=.lit (.int .i64 (glk m k:Nat)))∧Maps.size D=m.length
theorem GMapIs.made(w:World):GMapIs (w.alloc (.map #[] 0)) w.heap.size 0 []:=
 ⟨.map [],World.ownsMap_made w _ _ _,fun k=>⟨rfl,rfl⟩,rfl⟩
theorem GMapIs.lt{w:World}{b n:Nat}{m:GM}(h:GMapIs w b n m):b<w.heap.size:=by obtain⟨D,h,_⟩:=h;exact h.lt
theorem GMapIs.kept{w w':World}{b n:Nat}{m:GM}(h:GMapIs w b n m)(hb:w'.heap[b]?=w.heap[b]?):GMapIs w' b n m:=by
 obtain⟨D,⟨es,clock,h1,h2⟩,h3⟩:=h
 exact⟨D,⟨es,clock,hb.trans h1,h2⟩,h3⟩
theorem GMapIs.mono{w:World}{b n:Nat}{m:GM}(h:GMapIs w b n m){n':Nat}(hn:n≤n'):GMapIs w b n' m:=by
 obtain⟨D,h1,h2⟩:=h
 exact⟨D,h1.mono hn,h2⟩
theorem ztb:Maps.Keyed Tryz.prog 9:=Maps.string_keyed Tryz.underlying9
theorem zq2{k:List UInt8}(h:k.length≤maxLen):keyOf Tryz.prog 9 (.string (bs k))=some (.string k):=by
 have:=WideMaps.keyOf_string_mk (P:=Tryz.prog) Tryz.underlying9 (s:=bs k) (by rw[zae];exact h)
 rwa [zai] at this
theorem zvp(k:List UInt8):WideAt.IsKeyLit (.string k):=by trivial
theorem GMapIs.look{w:World}{b n:Nat}{m:GM}(h:GMapIs w b n m){k:List UInt8}(hk:k.length≤maxLen):
  (Instr.lookup 108 (.map (some b)) (.string (bs k)) false).run Tryz.prog w=.ok (.int .i64 (glk m k:Nat)) w:=by
 obtain⟨D,h1,h2,_⟩:=h
 obtain⟨c,hr,hv,_⟩:=h1.lookup_int ztb Tryz.underlying108 Tryz.underlying3 (by kernel_rfl) (zq2 hk)
 rw[(h2 k).2] at hv
 have:c=(glk m k:Nat):=by simpa using hv.symm
 subst this
 exact hr
theorem GMapIs.store{w:World}{b n:Nat}{m:GM}(h:GMapIs w b n m){k:List UInt8}(hk:k.length≤maxLen){v:Nat}(hv:v≤9223372036854775807)(hn:n<maxLen):
  ∃w',(Instr.mapUpdate 108 (.map (some b)) (.string (bs k)) (.int .i64 v)).run Tryz.prog w=.ok () w'∧GMapIs w' b (n+1) (zja m k v)∧w.mapTurned w' b:=by
 obtain⟨D,h1,h2,h3⟩:=h
 obtain⟨w',hr,ho,ht⟩:=h1.store ztb Tryz.underlying108 hn (zq2 hk) (plainElem_int Tryz.underlying3 (a:=(v:Int)) (WalkArith.wf_i64 (by omega)))
 refine⟨w',hr,⟨_,ho,fun k'=>?_,?_⟩,ht⟩
 ·by_cases e:k'=k
  ·subst e
   rw[Maps.has_put_same h1.isMap (zvp k'),Maps.atKey_put_same h1.isMap (zvp k'),zq1,yf6]
   exact⟨rfl,rfl⟩
  ·have ne:Lit.string k'≠.string k:=fun h=>e (by injection h)
   rw[Maps.has_put_other ne,Maps.atKey_put_other ne,yf5 m v e,ya1 m v e]
   exact h2 k'
 ·rw[Maps.size_put (h1.tidy ztb),(h2 k).1,h3,ykj]
def zid:GM→List UInt8→Nat→GM
 | [],k,v=>[(k,v)]
 | p::l,k,v=>if ltL p.1 k=true then p::zid l k v else if p.1=k then (k,v)::l else (k,v)::p::l
def GSrt(l:GM):Prop:=l.Pairwise fun a b=>ltL a.1 b.1=true
theorem GSrt.nodup{l:GM}(h:GSrt l):(l.map Prod.fst).Nodup:=by
 unfold List.Nodup
 rw[List.pairwise_map]
 exact List.Pairwise.imp (fun h=>zbm h) h
theorem zqz{l:GM}{k:List UInt8}{v:Nat}{p:List UInt8×Nat}(hp:p∈zid l k v):p=(k,v)∨p∈l:=by
 induction l with
 | nil=>simp[zid] at hp;exact .inl hp
 | cons q l ih=>
  unfold zid at hp
  split at hp
  ·rcases List.mem_cons.1 hp with rfl|hp
   ·exact .inr (by simp)
   ·exact(ih hp).imp id (fun h=>by simp[h])
  ·split at hp
   ·rcases List.mem_cons.1 hp with rfl|hp
    ·exact .inl rfl
    ·exact .inr (by simp[hp])
   ·rcases List.mem_cons.1 hp with rfl|hp
    ·exact .inl rfl
    ·exact .inr hp
theorem ykh{l:GM}(h:GSrt l)(k:List UInt8)(v:Nat):GSrt (zid l k v):=by
 induction l with
 | nil=>exact List.pairwise_singleton _ _
 | cons q l ih=>
  obtain⟨h1,h2⟩:=List.pairwise_cons.1 h
  unfold zid
  split
  ·rename_i hq
   refine List.pairwise_cons.2 ⟨fun p hp=>?_,ih h2⟩
   rcases zqz hp with rfl|hp
   ·exact hq
   ·exact h1 p hp
  ·rename_i hq
   split
   ·rename_i he
    refine List.pairwise_cons.2 ⟨fun p hp=>?_,h2⟩
    rw[←he]
    exact h1 p hp
   ·rename_i he
    have hk:ltL k q.1=true:=by
     rcases zev q.1 k with h|h|h
     ·exact absurd h hq
     ·exact absurd h he
     ·exact h
    refine List.pairwise_cons.2 ⟨fun p hp=>?_,h⟩
    rcases List.mem_cons.1 hp with rfl|hp
    ·exact hk
    ·exact zbq hk (h1 p hp)
theorem yfz{m:GM}(h:(m.map Prod.fst).Nodup)(k:List UInt8)(v:Nat):(zja m k v).Perm ((k,v)::m.filter fun p=>p.1 != k):=by
 induction m with
 | nil=>exact List.Perm.refl _
 | cons p m ih=>
  rw[List.map_cons,List.nodup_cons] at h
  unfold zja
  by_cases hp:p.1=k
  ·rw[if_pos hp]
   have e:(p::m).filter (fun p=>p.1 != k)=m:=by
    rw[List.filter_cons_of_neg (by simp[hp])]
    refine List.filter_eq_self.2 fun q hq=>?_
    have:q.1≠k:=fun e=>h.1 (by rw[hp,←e];exact List.mem_map_of_mem hq)
    simpa using this
   rw[e]
  ·rw[if_neg hp,List.filter_cons_of_pos (by simpa using hp)]
   exact((ih h.2).cons p).trans (List.Perm.swap _ _ _)
theorem zs9{l:GM}(h:GSrt l)(k:List UInt8)(v:Nat):(zid l k v).Perm ((k,v)::l.filter fun p=>p.1 != k):=by
 induction l with
 | nil=>exact List.Perm.refl _
 | cons p l ih=>
  obtain⟨h1,h2⟩:=List.pairwise_cons.1 h
  unfold zid
  split
  ·rename_i hq
   rw[List.filter_cons_of_pos (by simpa using zbm hq)]
   exact((ih h2).cons p).trans (List.Perm.swap _ _ _)
  ·rename_i hq
   have hrest:∀(x:List UInt8),(∀q∈l,ltL x q.1=true)→l.filter (fun p=>p.1 != x)=l:=fun x hx=>List.filter_eq_self.2 fun q hq=>by simpa using (zbm (hx q hq)).symm
   split
   ·rename_i he
    rw[List.filter_cons_of_neg (by simp[he]),hrest k (by rw[←he];exact h1)]
   ·rename_i he
    have hk:ltL k p.1=true:=by
     rcases zev p.1 k with h|h|h
     ·exact absurd h hq
     ·exact absurd h he
     ·exact h
    rw[List.filter_cons_of_pos (by simpa using he),hrest k (fun q hq=>zbq hk (h1 q hq))]
theorem zoq{m l:GM}(h:m.Perm l)(hl:(l.map Prod.fst).Nodup):(m.map Prod.fst).Nodup:=(h.map Prod.fst).nodup_iff.2 hl
theorem yio{m l:GM}(h:m.Perm l)(hs:GSrt l)(k:List UInt8)(v:Nat):(zja m k v).Perm (zid l k v):=
 (yfz (zoq h hs.nodup) k v).trans ((((h.filter _).cons _)).trans (zs9 hs k v).symm)
theorem zgy{m l:GM}(h:m.Perm l)(hl:(l.map Prod.fst).Nodup)(k:List UInt8):glk m k=glk l k:=by
 have hm:=zoq h hl
 by_cases hk:k∈l.map Prod.fst
 ·obtain⟨p,hp,rfl⟩:=List.mem_map.1 hk
  rw[zvo hl hp,zvo hm (h.mem_iff.2 hp)]
 ·have hz:∀(x:GM),k∉x.map Prod.fst→glk x k=0:=by
   intro x hx
   induction x with
   | nil=>rfl
   | cons q x ih=>
    rw[List.map_cons,List.mem_cons,not_or] at hx
    unfold glk
    rw[if_neg (fun e=>hx.1 e.symm)]
    exact ih hx.2
  rw[hz l hk,hz m (fun h2=>hk ((h.map Prod.fst).mem_iff.1 h2))]
def zhn(m:GM)(k:List UInt8):Nat:=if zbc k=false then 5 else if glk m k=0∧20≤m.length then 8 else 0
def zhk(m:GM)(k:List UInt8):Nat:=if zhn m k≠0 then zhn m k else if 2147483648≤glk m k then 2 else 0
def opN(m:GM)(k:List UInt8):Nat:=if zhk m k=0 then glk m k+1 else 0
def adC(m:GM)(k:List UInt8)(n:Int):Nat:=if glk m k=0 then 6 else if (glk m k:Int)=n then 0 else 11
def stC(m:GM)(k:List UInt8)(n:Int):Nat:=if zhn m k≠0 then zhn m k else if n<1∨2147483648<n then 2 else 0
def stN(m:GM)(k:List UInt8)(n:Int):Nat:=if (glk m k:Int)<n then n.toNat else glk m k
def opM(m:GM)(k:List UInt8):GM:=if zhk m k=0 then zja m k (glk m k+1) else m
theorem zm5{m:GM}{k:List UInt8}(h:zbc k=false):zhn m k=5:=by unfold zhn;rw[if_pos h]
theorem zm6{m:GM}{k:List UInt8}(h:zbc k=true)(h2:glk m k=0∧20≤m.length):zhn m k=8:=by unfold zhn;rw[if_neg (by simp[h]),if_pos h2]
theorem zqu{m:GM}{k:List UInt8}(h:zbc k=true)(h2:¬(glk m k=0∧20≤m.length)):zhn m k=0:=by unfold zhn;rw[if_neg (by simp[h]),if_neg h2]
theorem zsp{m:GM}{k:List UInt8}(h:zhn m k≠0):zhk m k=zhn m k∧opN m k=0∧opM m k=m:=by
 have e:zhk m k=zhn m k:=by unfold zhk;rw[if_pos h]
 exact⟨e,by unfold opN;rw[if_neg (by rw[e];exact h)],by unfold opM;rw[if_neg (by rw[e];exact h)]⟩
theorem zso{m:GM}{k:List UInt8}(h:zhn m k=0)(h2:2147483648≤glk m k):zhk m k=2∧opN m k=0∧opM m k=m:=by
 have e:zhk m k=2:=by unfold zhk;rw[if_neg (by simp[h]),if_pos h2]
 exact⟨e,by unfold opN;rw[if_neg (by rw[e];decide)],by unfold opM;rw[if_neg (by rw[e];decide)]⟩
theorem yep{m:GM}{k:List UInt8}(h:zhn m k=0)(h2:¬2147483648≤glk m k):zhk m k=0∧opN m k=glk m k+1∧opM m k=zja m k (glk m k+1):=by
 have e:zhk m k=0:=by unfold zhk;rw[if_neg (by simp[h]),if_neg h2]
 exact⟨e,by unfold opN;rw[if_pos e],by unfold opM;rw[if_pos e]⟩
theorem zsy{m l:GM}(h:m.Perm l)(hl:(l.map Prod.fst).Nodup)(k:List UInt8):zhn m k=zhn l k:=by
 unfold zhn
 rw[zgy h hl,h.length_eq]
theorem zxm{m l:GM}(h:m.Perm l)(hl:(l.map Prod.fst).Nodup)(k:List UInt8):zhk m k=zhk l k∧opN m k=opN l k:=by
 have e:zhk m k=zhk l k:=by unfold zhk;rw[zsy h hl,zgy h hl]
 exact⟨e,by unfold opN;rw[e,zgy h hl]⟩
theorem yil{m l:GM}(h:m.Perm l)(hl:(l.map Prod.fst).Nodup)(k:List UInt8)(n:Int):stC m k n=stC l k n∧stN m k n=stN l k n∧adC m k n=adC l k n:=by
 refine⟨?_,?_,?_⟩
 ·unfold stC;rw[zsy h hl]
 ·unfold stN;rw[zgy h hl]
 ·unfold adC;rw[zgy h hl]
structure GWF(l:GM):Prop where
 srt:GSrt l
 nm:∀p∈l,zbc p.1=true
 ep:∀p∈l,1≤p.2∧p.2≤2147483648
 few:l.length≤20
theorem GWF.nil:GWF []:=⟨List.Pairwise.nil,by simp,by simp,by simp⟩
theorem zqm{v:Value}{x:Bool}{ps:List MemPlace}(h:plainElem (H:=Unit) Tryz.prog 4 v=some (.lit (.bool x),ps)):v=.bool x:=by
 unfold plainElem at h
 rw[Tryz.underlying4] at h
 cases v<;>simp at h
 rw[h.1]
def FMapIs(w:World)(b n:Nat)(fu:List (List UInt8)):Prop:=
 ∃D:DataW Unit,w.ownsMap Tryz.prog 9 (plainElem Tryz.prog 4) b n D∧
  (∀k:List UInt8,D.atKey (.string k) (.lit (.bool false))=.lit (.bool (fu.contains k)))
theorem FMapIs.made(w:World):FMapIs (w.alloc (.map #[] 0)) w.heap.size 0 []:=
 ⟨.map [],World.ownsMap_made w _ _ _,fun k=>rfl⟩
theorem FMapIs.lt{w:World}{b n:Nat}{fu:List (List UInt8)}(h:FMapIs w b n fu):b<w.heap.size:=by obtain⟨D,h,_⟩:=h;exact h.lt
theorem FMapIs.isMap{w:World}{b n:Nat}{fu:List (List UInt8)}(h:FMapIs w b n fu):∃es clock,w.heap[b]?=some (.map es clock):=by
 obtain⟨D,⟨es,clock,hb,_⟩,_⟩:=h
 exact⟨es,clock,hb⟩
theorem FMapIs.kept{w w':World}{b n:Nat}{fu:List (List UInt8)}(h:FMapIs w b n fu)(hb:w'.heap[b]?=w.heap[b]?):FMapIs w' b n fu:=by
 obtain⟨D,⟨es,clock,h1,h2⟩,h3⟩:=h
 exact⟨D,⟨es,clock,hb.trans h1,h2⟩,h3⟩
theorem FMapIs.look{w:World}{b n:Nat}{fu:List (List UInt8)}(h:FMapIs w b n fu){k:List UInt8}(hk:k.length≤maxLen):
  (Instr.lookup 243 (.map (some b)) (.string (bs k)) false).run Tryz.prog w=.ok (.bool (fu.contains k)) w:=by
 obtain⟨D,h1,h2⟩:=h
 obtain⟨v,ps,hr,hv⟩:=h1.lookup ztb Tryz.underlying243 (z:=.bool false) (by kernel_rfl) (zd:=.lit (.bool false)) (zp:=[]) (plainElem_bool Tryz.underlying4 false) (zq2 hk)
 rw[h2 k] at hv
 rw[zqm hv] at hr
 exact hr
theorem FMapIs.store{w:World}{b n:Nat}{fu:List (List UInt8)}(h:FMapIs w b n fu){k:List UInt8}(hk:k.length≤maxLen)(hn:n<maxLen):
  ∃w',(Instr.mapUpdate 243 (.map (some b)) (.string (bs k)) (.bool true)).run Tryz.prog w=.ok () w'∧FMapIs w' b (n+1) (k::fu)∧w.mapTurned w' b:=by
 obtain⟨D,h1,h2⟩:=h
 obtain⟨w',hr,ho,ht⟩:=h1.store ztb Tryz.underlying243 hn (zq2 hk) (plainElem_bool Tryz.underlying4 true)
 refine⟨w',hr,⟨_,ho,fun k'=>?_⟩,ht⟩
 by_cases e:k'=k
 ·subst e
  rw[Maps.atKey_put_same h1.isMap (zvp k')]
  simp
 ·have ne:Lit.string k'≠.string k:=fun h=>e (by injection h)
  rw[Maps.atKey_put_other ne,h2 k']
  simp[e]
section
theorem GMapIs.len{w:World}{b n:Nat}{m:GM}(h:GMapIs w b n m)(ty:TypeId):(Builtin.len_ #[108] ty #[.map (some b)]).run Tryz.prog w=.ok (.int .i64 (m.length:Nat)) w:=by
 obtain⟨D,h1,_,h3⟩:=h
 rw[h1.len Tryz.underlying108,h3]
structure GtAt(w:World)(gb mb n:Nat)(m:GM):Prop where
 cells:w.heap[gb]?=some (.cells #[.map (some mb)] 110 (0,0))
 map:GMapIs w mb n m
 ne:gb≠mb
theorem GtAt.kept{w w':World}{gb mb n:Nat}{m:GM}{S:Nat→Prop}(h:GtAt w gb mb n m)(hc:Chg w w' S)(h1:¬S gb)(h2:¬S mb):GtAt w' gb mb n m:=
 ⟨(hc.block gb (lt_of_block h.cells) h1).trans h.cells,h.map.kept (hc.block mb h.map.lt h2),h.ne⟩
theorem GtAt.below{w w':World}{gb mb n:Nat}{m:GM}(h:GtAt w gb mb n m)(hb:Below w.heap.size w w'):GtAt w' gb mb n m:=h.kept (Chg.of_below hb (fun _=>False)) (fun h=>h) (fun h=>h)
theorem GtAt.mono{w:World}{gb mb n n':Nat}{m:GM}(h:GtAt w gb mb n m)(hn:n≤n'):GtAt w gb mb n' m:=⟨h.cells,h.map.mono hn,h.ne⟩
theorem GtAt.c0{w:World}{gb mb n:Nat}{m:GM}(h:GtAt w gb mb n m):w.cell? ⟨gb,0,none⟩=some (.map (some mb)):=by simp[World.cell?,h.cells]
theorem GtAt.store{w w1:World}{gb mb n:Nat}{m m':GM}(h:GtAt w gb mb n m)(hm:GMapIs w1 mb (n+1) m')(ht:w.mapTurned w1 mb):GtAt w1 gb mb (n+1) m'∧Chg w w1 (fun x=>x=mb):=by
 have hc:=Chg.of_grown ht.grown
 exact⟨⟨(hc.block gb (lt_of_block h.cells) h.ne).trans h.cells,hm,h.ne⟩,hc⟩
theorem zx5(w:World):Calls Tryz.prog 17 #[] w fun e w'=>∃gb mb,e=.returned (.pointer (some ⟨gb,0,none⟩))∧GtAt w' gb mb 0 []∧Below w.heap.size w w'∧w.heap.size≤gb∧w.heap.size≤mb:=by
 have M0:=hid (GMapIs.made w)
 have hmm:=@run_makeMap Tryz.prog
 go_enter Tryz.func17,Tryz.ntmps17
 go_wp2_with fail
 go_ret
 have b1:=zag w (.map #[] 0)
 have hn:=heap_alloc_new (w.alloc (.map #[] 0)) (.cells #[.map (some w.heap.size)] 110)
 rw[show(w.alloc (.map #[] 0)).heap.size=w.heap.size+1 by simp] at hn
 refine⟨_,w.heap.size,rfl,⟨hn,?_,?_⟩,b1.alloc b1.size _,?_,Nat.le_refl _⟩
 ·exact M0.out.kept ((zag (w.alloc (.map #[] 0)) _).block _ (by simp))
 ·simp
 ·simp
attribute [local irreducible] zhn zhk opN opM stC stN adC glk zja zbc
section
variable{E:Nat→Addr}{gb mb n:Nat}{m:GM}{w:World}
theorem ykl(k:List UInt8)(h:GtAt w gb mb n m)(hk:k.length≤1000000000)(h5:Has E w 5)(h8:Has E w 8):
  Calls Tryz.prog 155 #[.pointer (some ⟨gb,0,none⟩),.string (bs k)] w fun e w'=>e=.returned (ev E (zhn m k))∧Below w.heap.size w w':=by
 have NM:=hid (fun w'=>zie k w' (by unfold maxLen;omega))
 have E5:=hid (fun(w':World)(b:Below w.heap.size w w')=>show w'.cell? ⟨5,0,none⟩=some (za0 (E 5)) from h5.below b)
 have E8:=hid (fun(w':World)(b:Below w.heap.size w w')=>show w'.cell? ⟨7,0,none⟩=some (za0 (E 8)) from h8.below b)
 have C0:=hid (fun(w':World)(b:Below w.heap.size w w')=>(h.below b).c0)
 have LK:=hid (fun(w':World)(b:Below w.heap.size w w')=>(h.below b).map.look (k:=k) (by unfold maxLen;omega))
 have LN:=hid (fun(w':World)(b:Below w.heap.size w w')=>(h.below b).map.len)
 clear h h5 h8
 by_cases hnm:zbc k=true
 ·rw[hnm] at NM
  by_cases hf:glk m k=0∧20≤m.length
  ·rw[zm6 hnm hf,za9 E (by decide)]
   have hz:(((glk m k:Nat):Int)==0)=true:=by rw[beq_iff_eq];omega
   have hlI:(20:Int)≤m.length:=by omega
   clear hf hnm E5
   generalize glk m k=z at *
   go_enter Tryz.func155,Tryz.ntmps155
   go_wp2_with fail
   refine(NM.out _).mono ?_
   rintro e w1⟨rfl,b1⟩
   have c0:=C0.out _ b1
   have lk:=LK.out _ b1
   have ln:=LN.out _ b1
   have c8:=E8.out _ b1
   clear C0 LK LN E8 NM
   go_wp2_with fail
   go_ret
   exact⟨rfl,b1⟩
  ·rw[zqu hnm hf,zaj]
   have hor:((((glk m k:Nat):Int)==0)=false)∨((((glk m k:Nat):Int)==0)=true∧¬(20:Int)≤m.length):=by
    by_cases hz:glk m k=0
    ·exact .inr ⟨by rw[beq_iff_eq];omega,by omega⟩
    ·exact .inl (by rw[beq_eq_false_iff_ne];omega)
   clear hf hnm E5 E8
   generalize glk m k=z at *
   rcases hor with hz|⟨hz,hl⟩
   all_goals
    go_enter Tryz.func155,Tryz.ntmps155
    go_wp2_with fail
    refine(NM.out _).mono ?_
    rintro e w1⟨rfl,b1⟩
    have c0:=C0.out _ b1
    have lk:=LK.out _ b1
    have ln:=LN.out _ b1
    clear C0 LK LN NM
    go_wp2_with fail
    go_ret
    exact⟨rfl,b1⟩
 ·have hnm':zbc k=false:=by simpa using hnm
  rw[hnm'] at NM
  rw[zm5 hnm',za9 E (by decide)]
  clear hnm hnm' C0 LK LN E8
  go_enter Tryz.func155,Tryz.ntmps155
  go_wp2_with fail
  refine(NM.out _).mono ?_
  rintro e w1⟨rfl,b1⟩
  have c5:=E5.out _ b1
  clear NM E5
  go_wp2_with fail
  go_ret
  exact⟨rfl,b1⟩
theorem yhz{k:List UInt8}{x:Int}(h:glk m k=0):adC m k x=6:=by unfold adC;rw[if_pos h]
theorem yry{k:List UInt8}{x:Int}(h:glk m k≠0)(h2:(glk m k:Int)=x):adC m k x=0:=by unfold adC;rw[if_neg h,if_pos h2]
theorem zy3{k:List UInt8}{x:Int}(h:glk m k≠0)(h2:(glk m k:Int)≠x):adC m k x=11:=by unfold adC;rw[if_neg h,if_neg h2]
theorem zo7(k:List UInt8)(x:Int)(h:GtAt w gb mb n m)(hk:k.length≤1000000000)(h6:Has E w 6)(h11:Has E w 11):
  Calls Tryz.prog 112 #[.pointer (some ⟨gb,0,none⟩),.string (bs k),.int .i64 x] w fun e w'=>e=.returned (ev E (adC m k x))∧w=w':=by
 have c0:=h.c0
 have lk:=h.map.look (k:=k) (by unfold maxLen;omega)
 have c6:w.cell? ⟨3,0,none⟩=some (za0 (E 6)):=h6
 have c11:w.cell? ⟨4,0,none⟩=some (za0 (E 11)):=h11
 clear h h6 h11
 by_cases h0:glk m k=0
 ·rw[yhz h0,za9 E (by decide)]
  have hz:(((glk m k:Nat):Int)==0)=true:=by rw[beq_iff_eq];omega
  clear h0
  generalize glk m k=z at *
  go_enter Tryz.func112,Tryz.ntmps112
  go_wp2_with fail
  go_ret
  exact⟨rfl,rfl⟩
 ·have hz:(((glk m k:Nat):Int)==0)=false:=by rw[beq_eq_false_iff_ne];omega
  by_cases hx:(glk m k:Int)=x
  ·rw[yry h0 hx,zaj]
   have hq:(((glk m k:Nat):Int)==x)=true:=by rw[beq_iff_eq];exact hx
   clear h0 hx
   generalize glk m k=z at *
   go_enter Tryz.func112,Tryz.ntmps112
   go_wp2_with fail
   go_ret
   exact⟨rfl,rfl⟩
  ·rw[zy3 h0 hx,za9 E (by decide)]
   have hq:(((glk m k:Nat):Int)==x)=false:=by rw[beq_eq_false_iff_ne];exact hx
   clear h0 hx
   generalize glk m k=z at *
   go_enter Tryz.func112,Tryz.ntmps112
   go_wp2_with fail
   go_ret
   exact⟨rfl,rfl⟩
theorem zta(k:List UInt8)(h:GtAt w gb mb n m)(hk:k.length≤1000000000)(hn:n<1000000000)(h2:Has E w 2)(h5:Has E w 5)(h8:Has E w 8):
  Calls Tryz.prog 111 #[.pointer (some ⟨gb,0,none⟩),.string (bs k)] w fun e w'=>e=.returned (.tuple #[.int .i64 (opN m k:Nat),ev E (zhk m k)])∧GtAt w' gb mb (n+1) (opM m k)∧Chg w w' (fun x=>x=mb):=by
 have MY:=hid (ykl (E:=E) k h hk h5 h8)
 have C0:=hid (fun(w':World)(b:Below w.heap.size w w')=>(h.below b).c0)
 have LK:=hid (fun(w':World)(b:Below w.heap.size w w')=>(h.below b).map.look (k:=k) (by unfold maxLen;omega))
 have E2:=hid (fun(w':World)(b:Below w.heap.size w w')=>show w'.cell? ⟨0,0,none⟩=some (za0 (E 2)) from h2.below b)
 have HH:=hid h
 clear h2 h5 h8 h
 by_cases hm:zhn m k=0
 ·rw[hm,zaj] at MY
  by_cases ht:2147483648≤glk m k
  ·obtain⟨e1,e2,e3⟩:=zso hm ht
   rw[e1,e2,e3,za9 E (by decide)]
   have htI:(2147483648:Int)≤((glk m k:Nat):Int):=by omega
   clear e1 e2 e3 hm ht
   generalize glk m k=z at *
   go_enter Tryz.func111,Tryz.ntmps111
   go_wp2_with fail
   refine MY.out.mono ?_
   rintro e w1⟨rfl,b1⟩
   have c0:=C0.out _ b1
   have lk:=LK.out _ b1
   have c2:=E2.out _ b1
   have B1:=hid b1
   clear b1 C0 LK E2 MY
   go_wp2_with fail
   go_quiet (fail)
   go_wp2_with fail
   go_ret2
   have bb:=zac B1.out ‹Nat›
   exact⟨rfl,(HH.out.below (zac B1.out _)).mono (by omega),Chg.of_below (zac B1.out _) _⟩
  ·obtain⟨e1,e2,e3⟩:=yep hm ht
   rw[e1,e2,e3,zaj]
   have htI:¬(2147483648:Int)≤((glk m k:Nat):Int):=by omega
   have ST:=hid (fun(w':World)(b:Below w.heap.size w w')=>(HH.out.below b).map.store (k:=k) (v:=glk m k+1) (by unfold maxLen;omega) (by omega) (by unfold maxLen;omega))
   have LK2:=hid (fun(w':World)(hm':GMapIs w' mb (n+1) (zja m k (glk m k+1)))=>hm'.look (k:=k) (by unfold maxLen;omega))
   rw[zq1] at LK2
   clear e1 e2 e3 hm ht E2
   go_enter Tryz.func111,Tryz.ntmps111
   go_wp2_with fail
   refine MY.out.mono ?_
   rintro e w1⟨rfl,b1⟩
   have c0:=C0.out _ b1
   have lk:=LK.out _ b1
   obtain⟨w2,st,hm2,ht2⟩:=ST.out _ b1
   obtain⟨g2,ch2⟩:=(HH.out.below b1).store hm2 ht2
   have c02:=g2.c0
   have lk2:=LK2.out _ hm2
   have G2:=hid g2
   have CH:=hid ((Chg.of_below b1 (fun x=>x=mb)).trans ch2 (fun _ _ h=>h))
   clear b1 C0 LK MY ST LK2 hm2 ht2 g2 ch2
   rw[Int.natCast_add] at st
   replace st:(Instr.mapUpdate 108 (.map (some mb)) (.string (bs k)) (.int .i64 (((glk m k:Nat):Int)+1))).run Tryz.prog w1=.ok () w2:=st
   have hz0:(0:Int)≤((glk m k:Nat):Int):=by omega
   generalize hz1:glk m k+1=z1 at st lk2 G2
   have HZ1:=hid hz1
   clear hz1
   generalize ((glk m k:Nat):Int)=z at *
   go_wp2_with fail
   go_ret2
   rcases HZ1.out with rfl
   exact⟨rfl,G2.out,CH.out⟩
 ·obtain⟨e1,e2,e3⟩:=zsp (m:=m) (k:=k) hm
  rw[e1,e2,e3]
  rw[zep E hm] at MY ⊢
  clear e1 e2 e3 C0 LK E2 hm
  generalize zhn m k=c at *
  go_enter Tryz.func111,Tryz.ntmps111
  go_wp2_with fail
  refine MY.out.mono ?_
  rintro e w1⟨rfl,b1⟩
  have B1:=hid b1
  clear b1 MY
  go_wp2_with fail
  go_ret2
  exact⟨rfl,(HH.out.below B1.out).mono (by omega),Chg.of_below B1.out _⟩
end
end
def pk0(p:List UInt8×Bool):Value:=.string (bs p.1)
def pk1(p:List UInt8×Bool):Value:=.bool p.2
def zcb(l:List (List UInt8×Bool)):List Value:=zip pk0 pk1 l
theorem zkn(l:List (List UInt8×Bool)):(zcb l).length=l.length * 2:=zll _ _ l
theorem zb8(l:List (List UInt8×Bool))(k:Nat)(h:k<l.length):(zcb l)[k * 2]?=some (.string (bs l[k].1))∧(zcb l)[k * 2+1]?=some (.bool l[k].2):=zgs _ _ l k h
theorem zjr(l m:List (List UInt8×Bool)):zcb (l++m)=zcb l++zcb m:=zgt _ _ l m
def zrn:List UInt8:=[120]
def zuj(n:Nat):GM:=if n=0 then [] else [(zrn,n)]
theorem zj4(n:Nat):glk (zuj n) zrn=n:=by
 unfold zuj
 by_cases h:n=0
 ·rw[if_pos h,h];rfl
 ·rw[if_neg h];simp[glk]
structure XA where
 vf:Value
 vt:Value
 vn:Value
 vl:Value
 gb:Nat
 mb:Nat
 fb:Nat
 ub:Nat
def zew(A:XA)(pf pu:Value)(x:XS):Array Value:=#[A.vf,A.vt,.pointer (some ⟨A.gb,0,none⟩),A.vn,.int .i64 x.ep,.int .i64 x.sq,.int .u8 x.ask.k.toNat,.int .i64 x.ask.e,.int .i64 x.ask.q,.string (bs x.ask.d),.int .i64 x.age,pf,A.vl,.bool x.kn,pu,.bool x.dn]
structure XRest(w0 w:World)(A:XA)(x:XS):Prop where
 fr:w.ownsRow w0.heap.size 126 2 A.vf x.fr.length (zah x.fr)
 tt:w.ownsRow w0.heap.size 126 2 A.vt x.tt.length (zah x.tt)
 nt:w.ownsRow w0.heap.size 248 2 A.vn x.net.length (zcb x.net)
 ln:w.ownsRow w0.heap.size 173 3 A.vl x.ln.length (zau x.ln)
 gt:GtAt w A.gb A.mb x.ge (zuj x.ge)
 lm:w0.heap.size≤A.mb
 bel:Below w0.heap.size w0 w
def XCell(w:World)(xb:Nat)(A:XA)(pf pu:Value)(x:XS):Prop:=w.heap[xb]?=some (.cells (zew A pf pu x) 245 (0,0))
structure XAt(w0 w:World)(xb:Nat)(A:XA)(x:XS):Prop where
 cells:XCell w xb A (.pointer (some ⟨A.fb,0,none⟩)) (.map (some A.ub)) x
 rest:XRest w0 w A x
 fl:FlowAt w A.fb x.W x.L x.T x.G
 fu:FMapIs w A.ub x.fu.length x.fu
 ne:A.ub≠A.mb
 lx:w0.heap.size≤xb
 lf:w0.heap.size≤A.fb
 lu:w0.heap.size≤A.ub
section
variable{w0 w w':World}{xb:Nat}{A:XA}{x:XS}{pf pu:Value}
theorem zb2{a b:Nat}{cs cs':Array Value}{t t':TypeId}{f f':Nat×Nat}(h1:w.heap[a]?=some (.cells cs t f))(h2:w.heap[b]?=some (.cells cs' t' f'))(hne:t≠t'):a≠b:=by
 rintro rfl
 rw[h1] at h2
 injection h2 with h2
 injection h2 with _ h3 _
 exact hne h3
theorem zcp{a b:Nat}{cs:Array Value}{t:TypeId}{f:Nat×Nat}{es}{c}(h1:w.heap[a]?=some (.cells cs t f))(h2:w.heap[b]?=some (.map es c)):a≠b:=by
 rintro rfl
 rw[h1] at h2
 cases h2
theorem zcj{base size n:Nat}{e t:TypeId}{v:Value}{xs:List Value}(h:w.ownsRow base e size v n xs){y:Nat}{cs:Array Value}{f:Nat×Nat}(hy:w.heap[y]?=some (.cells cs t f))(hne:t≠e):v.ownBlock≠some y:=by
 rcases h.2 with⟨rfl,_⟩|⟨g,cap,cur,rfl,_,hg,_⟩
 ·simp[Value.ownBlock]
 ·intro e1
  have:g=y:=by simpa [Value.ownBlock] using e1
  subst this
  rw[hg] at hy
  cases hy
  exact hne rfl
theorem zbl{base size n:Nat}{e:TypeId}{v:Value}{xs:List Value}(h:w.ownsRow base e size v n xs){y:Nat}{es}{c}(hy:w.heap[y]?=some (.map es c)):v.ownBlock≠some y:=by
 rcases h.2 with⟨rfl,_⟩|⟨g,cap,cur,rfl,_,hg,_⟩
 ·simp[Value.ownBlock]
 ·intro e1
  have:g=y:=by simpa [Value.ownBlock] using e1
  subst this
  rw[hg] at hy
  cases hy
theorem zfb{b1 b2 s1 s2 n1 n2:Nat}{e1 e2:TypeId}{v1 v2:Value}{xs1 xs2:List Value}(h1:w.ownsRow b1 e1 s1 v1 n1 xs1)(h2:w.ownsRow b2 e2 s2 v2 n2 xs2)(hne:e1≠e2){y:Nat}(hy:v1.ownBlock=some y):v2.ownBlock≠some y:=by
 rcases h1.2 with⟨rfl,_⟩|⟨g,cap,cur,rfl,_,hg,_⟩
 ·simp[Value.ownBlock] at hy
 ·have:g=y:=by simpa [Value.ownBlock] using hy
  subst this
  exact zcj h2 hg hne
theorem GtAt.mapObj{gb mb n:Nat}{m:GM}(h:GtAt w gb mb n m):∃es c,w.heap[mb]?=some (.map es c):=by
 obtain⟨D,⟨es,clock,hb,_⟩,_⟩:=h.map
 exact⟨es,clock,hb⟩
theorem XRest.at(h:XRest w0 w A x){y:Nat}{cs:Array Value}{t:TypeId}{f:Nat×Nat}(hc:Chg w w' (fun b=>b=y))(hy:w.heap[y]?=some (.cells cs t f))(ht:t≠126∧t≠248∧t≠173∧t≠110)(lo:w0.heap.size≤y):XRest w0 w' A x:=by
 obtain⟨es,c,hm⟩:=h.gt.mapObj
 refine⟨zan h.fr hc (fun z hz e=>zcj h.fr hy ht.1 (by rw[hz,e])),zan h.tt hc (fun z hz e=>zcj h.tt hy ht.1 (by rw[hz,e])),zan h.nt hc (fun z hz e=>zcj h.nt hy ht.2.1 (by rw[hz,e])),zan h.ln hc (fun z hz e=>zcj h.ln hy ht.2.2.1 (by rw[hz,e])),h.gt.kept hc (fun e=>?_) (fun e=>?_),h.lm,hc.below h.bel (fun z hz=>by subst hz;exact lo)⟩
 ·have:=h.gt.cells;rw[e,hy] at this;cases this;exact ht.2.2.2 rfl
 ·rw[e,hy] at hm;cases hm
theorem XRest.mapAt(h:XRest w0 w A x){y:Nat}{es}{c}(hc:Chg w w' (fun b=>b=y))(hy:w.heap[y]?=some (.map es c))(hne:y≠A.mb)(lo:w0.heap.size≤y):XRest w0 w' A x:=by
 refine⟨zan h.fr hc (fun z hz e=>zbl h.fr hy (by rw[hz,e])),zan h.tt hc (fun z hz e=>zbl h.tt hy (by rw[hz,e])),zan h.nt hc (fun z hz e=>zbl h.nt hy (by rw[hz,e])),zan h.ln hc (fun z hz e=>zbl h.ln hy (by rw[hz,e])),h.gt.kept hc (fun e=>?_) (fun e=>hne e.symm),h.lm,hc.below h.bel (fun z hz=>by subst hz;exact lo)⟩
 have:=h.gt.cells;rw[e,hy] at this;cases this
theorem XRest.below(h:XRest w0 w A x)(hb:Below w.heap.size w w'):XRest w0 w' A x:=⟨zad h.fr hb,zad h.tt hb,zad h.nt hb,zad h.ln hb,h.gt.below hb,h.lm,zaa h.bel hb⟩
theorem XRest.netAt(h:XRest w0 w A x){v':Value}{net':List (List UInt8×Bool)}(hc:Chg w w' (fun b=>A.vn.ownBlock=some b))(hn:w'.ownsRow w0.heap.size 248 2 v' net'.length (zcb net')):
  XRest w0 w' {A with vn:=v'} {x with net:=net'}:=by
 obtain⟨es,c,hm⟩:=h.gt.mapObj
 refine⟨zan h.fr hc (fun z hz e=>zfb h.nt h.fr (by decide) e hz),zan h.tt hc (fun z hz e=>zfb h.nt h.tt (by decide) e hz),hn,zan h.ln hc (fun z hz e=>zfb h.nt h.ln (by decide) e hz),h.gt.kept hc (fun e=>zcj h.nt h.gt.cells (by decide) e) (fun e=>zbl h.nt hm e),h.lm,hc.below h.bel (fun z hz=>ze1 h.nt hz)⟩
theorem XAt.below(h:XAt w0 w xb A x)(hb:Below w.heap.size w w'):XAt w0 w' xb A x:=
 ⟨(hb.block xb (lt_of_block h.cells)).trans h.cells,h.rest.below hb,(hb.block A.fb h.fl.lt).trans h.fl,h.fu.kept (hb.block _ h.fu.lt),h.ne,h.lx,h.lf,h.lu⟩
theorem XCell.cs(h:XCell w xb A pf pu x):w.cell? ⟨xb,0,none⟩=some A.vf∧w.cell? ⟨xb,1,none⟩=some A.vt∧w.cell? ⟨xb,2,none⟩=some (.pointer (some ⟨A.gb,0,none⟩))∧w.cell? ⟨xb,3,none⟩=some A.vn∧
  w.cell? ⟨xb,4,none⟩=some (.int .i64 x.ep)∧w.cell? ⟨xb,5,none⟩=some (.int .i64 x.sq)∧w.cell? ⟨xb,6,none⟩=some (.int .u8 x.ask.k.toNat)∧w.cell? ⟨xb,7,none⟩=some (.int .i64 x.ask.e)∧
  w.cell? ⟨xb,8,none⟩=some (.int .i64 x.ask.q)∧w.cell? ⟨xb,9,none⟩=some (.string (bs x.ask.d))∧w.cell? ⟨xb,10,none⟩=some (.int .i64 x.age)∧w.cell? ⟨xb,11,none⟩=some pf∧w.cell? ⟨xb,12,none⟩=some A.vl∧
  w.cell? ⟨xb,13,none⟩=some (.bool x.kn)∧w.cell? ⟨xb,14,none⟩=some pu∧w.cell? ⟨xb,15,none⟩=some (.bool x.dn):=by
 unfold XCell zew at h
 simp[World.cell?,h]
theorem XCell.fz(h:XCell w xb A pf pu x)(k:Nat):w.frozen? ⟨xb,k,none⟩=false:=by
 unfold XCell at h
 simp[World.frozen?,h]
theorem XCell.set(h:XCell w xb A pf pu x)(k:Nat)(u:Value){A':XA}{pf' pu':Value}{x':XS}(e:(zew A pf pu x).setIfInBounds k u=zew A' pf' pu' x'):XCell (w.setCell ⟨xb,k,none⟩ u) xb A' pf' pu' x':=by
 have:=za2 (k:=k) (u:=u) h
 rw[e] at this
 exact this
theorem XCell.chg(w:World)(xb k:Nat)(u:Value):Chg w (w.setCell ⟨xb,k,none⟩ u) (fun b=>b=xb):=(Chg.refl w (fun b=>b=xb)).set ⟨xb,k,none⟩ (.inl rfl) u
theorem XRest.xset(h:XRest w0 w A x)(hc:XCell w xb A pf pu x)(lo:w0.heap.size≤xb)(k:Nat)(u:Value):XRest w0 (w.setCell ⟨xb,k,none⟩ u) A x:=
 h.at (XCell.chg w xb k u) hc (by decide) lo
theorem XAt.set(h:XAt w0 w xb A x)(k:Nat)(u:Value){A':XA}{x':XS}(e:(zew A (.pointer (some ⟨A.fb,0,none⟩)) (.map (some A.ub)) x).setIfInBounds k u=zew A' (.pointer (some ⟨A'.fb,0,none⟩)) (.map (some A'.ub)) x')
  (ha:A'.fb=A.fb∧A'.ub=A.ub∧A'.mb=A.mb) (hx:x'.W=x.W∧x'.L=x.L∧x'.T=x.T∧x'.G=x.G∧x'.fu=x.fu) (hr:∀w2,XRest w0 w2 A x→XRest w0 w2 A' x'):XAt w0 (w.setCell ⟨xb,k,none⟩ u) xb A' x':=by
 obtain⟨a1,a2,a4⟩:=ha
 obtain⟨x1,x2,x3,x4,x5⟩:=hx
 have hc:=XCell.chg w xb k u
 obtain⟨es,c,hm⟩:=h.fu.isMap
 refine⟨h.cells.set k u e,hr _ (h.rest.xset h.cells h.lx k u),?_,?_,by rw[a2,a4];exact h.ne,h.lx,by rw[a1];exact h.lf,by rw[a2];exact h.lu⟩
 ·rw[a1,x1,x2,x3,x4]
  exact(hc.block A.fb h.fl.lt (zb2 h.fl h.cells (by decide))).trans h.fl
 ·rw[a2,x5]
  exact h.fu.kept (hc.block A.ub h.fu.lt (fun e=>zcp h.cells hm e.symm))
end
theorem yfu:(Tryz.prog.info? 248).map (fun i=>(i.zero,i.size,i.bytes))=some (some (.agg #[.string ⟨#[]⟩,.bool false]),2,24):=by kernel_rfl
theorem zur{w:World}{b:Nat}{x y:Value}(h:w.heap[b]?=some (.cells #[x,y] 248 (0,0))):SliceIs w (.slice (some ⟨b,0,none⟩) 1 1) 2 [x,y]:=
 .inr ⟨⟨b,0,none⟩,1,1,rfl,Nat.le_refl _,by unfold maxLen;omega,rfl,fun i u hi=>by
  match i,hi with
  | 0,hi=>simp at hi;subst hi;simp[World.cell?,h,Addr.add]
  | 1,hi=>simp at hi;subst hi;simp[World.cell?,h,Addr.add]⟩
theorem XS.put_yes{f:PFr}{x:XS}(h:frC f=0):x.put f={x with net:=x.net++[(frT f,false)]}:=if_pos h
theorem XS.put_no{f:PFr}{x:XS}(h:frC f≠0):x.put f=x:=if_neg h
section
variable{E:Nat→Addr}{w0 w:World}{xb:Nat}{A:XA}{x:XS}
theorem XAt.grow(h:XAt w0 w xb A x){w':World}{o:Obj}{v':Value}{net':List (List UInt8×Bool)}(hg:(w.alloc o).grownBy w' A.vn.ownBlock)(hn:w'.ownsRow w0.heap.size 248 2 v' net'.length (zcb net')):
  XAt w0 (w'.setCell ⟨xb,3,none⟩ v') xb {A with vn:=v'} {x with net:=net'}:=by
 have ha:=h.below (zag w o)
 have hc:Chg (w.alloc o) w' (fun b=>A.vn.ownBlock=some b):=⟨hg.os,hg.tape,hg.output,hg.size,fun k hk hn=>hg.block k hk (fun e=>hn e.symm)⟩
 obtain⟨es,c,hm⟩:=ha.fu.isMap
 have h1:XCell w' xb A (.pointer (some ⟨A.fb,0,none⟩)) (.map (some A.ub)) x:=(hc.block xb (lt_of_block ha.cells) (zcj ha.rest.nt ha.cells (by decide))).trans ha.cells
 have h2:FlowAt w' A.fb x.W x.L x.T x.G:=(hc.block A.fb ha.fl.lt (zcj ha.rest.nt ha.fl (by decide))).trans ha.fl
 have h3:FMapIs w' A.ub x.fu.length x.fu:=ha.fu.kept (hc.block A.ub ha.fu.lt (zbl ha.rest.nt hm))
 have hr:=ha.rest.netAt hc hn
 have hc2:=XCell.chg w' xb 3 v'
 have hs:XCell (w'.setCell ⟨xb,3,none⟩ v') xb {A with vn:=v'} (.pointer (some ⟨A.fb,0,none⟩)) (.map (some A.ub)) {x with net:=net'}:=h1.set 3 v' rfl
 obtain⟨es2,c2,hm2⟩:=h3.isMap
 refine⟨hs,hr.at hc2 h1 (by decide) h.lx,?_,?_,h.ne,h.lx,h.lf,h.lu⟩
 ·exact(hc2.block A.fb h2.lt (zb2 h2 h1 (by decide))).trans h2
 ·exact h3.kept (hc2.block A.ub h3.lt (fun e=>zcp h1 hm2 e.symm))
theorem XAt.grow_cell(h:XAt w0 w xb A x){w':World}{o:Obj}(hg:(w.alloc o).grownBy w' A.vn.ownBlock):w'.frozen? ⟨xb,3,none⟩=false∧w'.cell? ⟨xb,3,none⟩=some A.vn:=by
 have ha:=h.below (zag w o)
 have h1:XCell w' xb A (.pointer (some ⟨A.fb,0,none⟩)) (.map (some A.ub)) x:=(hg.block xb (lt_of_block ha.cells) (fun e=>zcj ha.rest.nt ha.cells (by decide) e.symm)).trans ha.cells
 exact⟨h1.fz 3,h1.cs.2.2.2.1⟩
theorem zld(f:PFr)(h:XAt w0 w xb A x)(hn:x.net.length≤1000000000)(h2:Has E w 2)(h4:Has E w 4):
  Calls Tryz.prog 186 #[.pointer (some ⟨xb,0,none⟩),f.val] w fun e w'=>e=.returned (.tuple #[])∧∃A',XAt w0 w' xb A' (x.put f):=by
 obtain⟨i0,hi,hs0,hs1,hs2⟩:=info_parts yfu
 have B0:=hid (zag w (.cells #[.int .u8 f.k.toNat,.int .i64 f.e,.int .i64 f.q,.string (bs f.d)] 241))
 have EN:=hid (ykx E f _ (h2.below B0.out) (h4.below B0.out))
 have HX:=hid (h.below B0.out)
 rw[PFr.val_is] at EN ⊢
 by_cases hc:frC f=0
 ·rw[hc,zaj,zyi hc] at EN
  rw[XS.put_yes hc]
  clear h h2 h4 hc
  go_enter Tryz.func186,Tryz.ntmps186
  go_wp2_with fail
  refine EN.out.mono ?_
  rintro e w1⟨rfl,b1⟩
  have hx:=HX.out.below b1
  obtain⟨c0,c1,c2,c3,_⟩:=hx.cells.cs
  have fz:=hx.cells.fz 3
  have HX1:=hid hx
  have HN1:Hid (x.net.length+1≤maxLen):=by show _≤_;unfold maxLen;omega
  have HN2:Hid ((x.net.length+1) * 24≤140737488355328):=by show _≤_;omega
  have HS:=hid hx.rest.bel.size
  have hO:=hx.rest.nt
  obtain⟨va,vc,hv⟩:=zab hO
  rw[hv] at c3 hO
  have HO:=hid hO
  have HV:=hid hv
  clear hO hv
  clear EN HX b1 hx c0 c1 c2
  go_wp2_with (first|(at_builtin;refine zak rfl (.tmp 17) (.tmp 20) 239 rfl w0.heap.size 248 i0 _ 2 24 Tryz.underlying239 hi hs0 hs1 hs2 rfl (by decide) _ x.net.length _ rfl (HO.out.alloc _) _ 1 [.string (bs (frT f)),.bool false] rfl (zur (heap_alloc_new _ _)) rfl (fun u hu=>by simp at hu;rcases hu with rfl|rfl<;>rfl) HN1.out HN2.out (by have:=HS.out;simp;omega) ?_;intro v' w5 hown5 hgrow _;have gc:=HX1.out.grow_cell (by rw[HV.out];exact hgrow);have f5:=gc.1;have k5:=gc.2;rw[HV.out] at k5;have HG5:=hid hgrow;have HO5:=hid hown5;clear gc hgrow;obtain⟨vb,vd,rfl⟩:=zab hown5;clear hown5))
  go_returns
  refine⟨rfl,_,HX1.out.grow (net':=x.net++[(frT f,false)]) (by rw[HV.out];exact HG5.out) ?_⟩
  rw[zjr,List.length_append]
  exact HO5.out
 ·have HC:=hid hc
  rw[XS.put_no hc]
  rw[zep E hc] at EN
  clear h h2 h4 hc
  go_enter Tryz.func186,Tryz.ntmps186
  go_wp2_with fail
  refine EN.out.mono ?_
  rintro e w1⟨rfl,b1⟩
  have HX1:=hid (HX.out.below b1)
  clear EN b1
  go_wp2_with fail
  go_returns
  exact⟨rfl,A,HX1.out⟩
end
end Go.Proofs.YtakhkcaihhpehaaGreatDoor
