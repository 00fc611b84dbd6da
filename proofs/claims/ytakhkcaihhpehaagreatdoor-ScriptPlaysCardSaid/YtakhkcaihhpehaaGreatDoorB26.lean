/- Texts of one proof, one behind the other: Rfv, SameTexts, Lit, RefSign, RefOps, MakeNo. -/
import Derived.Test.YtakhkcaihhpehaaGreatDoorB04
import Derived.Test.YtakhkcaihhpehaaGreatDoorB02
import Derived.Handy
import Derived.Test.YtakhkcaihhpehaaGreatDoorB01
import Derived.Test.YtakhkcaihhpehaaGreatDoorB11
import Derived.Test.YtakhkcaihhpehaaGreatDoorB10
import Derived.Test.YtakhkcaihhpehaaGreatDoorB03
import Derived.Test.YtakhkcaihhpehaaGreatDoorB12
import Derived.Test.YtakhkcaihhpehaaGreatDoorB13
namespace Go.Proofs.YtakhkcaihhpehaaGreatDoor
open Go.RowKit
open Lib (hid)
set_option linter.unusedVariables false
set_option maxRecDepth 100000
set_option maxHeartbeats 51200000
def rfv(p:Nat×Int):Value:=.agg #[.int .i64 p.1,.int .i64 p.2]
theorem zdz(p:Nat×Int):rfv p=.agg #[.int .i64 p.1,.int .i64 p.2]:=rfl
theorem ymb(p:Nat×Int)(c:Nat)(a:Int)(h:p=(c,a)):Value.agg #[.int .i64 c,.int .i64 a]=rfv p:=by rw[h,zdz]
theorem zb0(w:World)(o:Obj):Below w.heap.size w (w.alloc o):=(Below.refl _ w).alloc (Nat.le_refl _) o
theorem zut{w:World}{b:Nat}{x y:Value}{t:TypeId}(h:w.heap[b]?=some (.cells #[x,y] t (0,0)))(u v:Value):
  ((w.setCell ⟨b,0,none⟩ u).setCell ⟨b,1,none⟩ v).cell? ⟨b,0,none⟩=some u∧((w.setCell ⟨b,0,none⟩ u).setCell ⟨b,1,none⟩ v).cell? ⟨b,1,none⟩=some v:=by
 have h1:=za2 (k:=0) (u:=u) h
 have h2:=za2 (k:=1) (u:=v) h1
 constructor
 ·simp[World.cell?,h2]
 ·simp[World.cell?,h2]
theorem zsc(c:Int)(w:World):Calls Tryz.prog 60 #[.int .i64 c] w fun e w'=>e=.returned (.agg #[.int .i64 c,.int .i64 (-1)])∧Below w.heap.size w w':=by
 go_enter Tryz.func60,Tryz.ntmps60
 go_wp2_with fail
 go_returns
 exact⟨rfl,zb0 _ _⟩
theorem zhg(w:World):Calls Tryz.prog 49 #[] w fun e w'=>e=.returned (.agg #[.int .i64 0,.int .i64 (-1)])∧Below w.heap.size w w':=by
 go_enter Tryz.func49,Tryz.ntmps49
 go_wp2_with fail
 go_returns
 exact⟨rfl,zb0 _ _⟩
attribute [irreducible] rfv
theorem zk2(v1 v2:Value)(l1 l2:List (List UInt8))(w:World)(h1:SliceIs w v1 1 (l1.map fun x=>Value.string (bs x)))(h2:SliceIs w v2 1 (l2.map fun x=>Value.string (bs x))):
  Calls Tryz.prog 10 #[v1,v2] w fun e w'=>e=.returned (.bool (l1==l2))∧Drew w w':=by
 obtain⟨s1,n1,c1,rfl,e1,m1,k1,g1⟩:=h1.get
 obtain⟨s2,n2,c2,rfl,e2,m2,k2,g2⟩:=h2.get
 clear h1 h2
 simp at e1 e2
 have G1:=hid g1
 have G2:=hid g2
 clear g1 g2
 have k1':=k1
 unfold maxLen at k1'
 by_cases hlen:n1=n2
 ·subst hlen
  go_enter Tryz.func10,Tryz.ntmps10
  go_wp2_with fail
  go_loopw [5] (fun i wr=>∃k:Nat,i=.int .i64 k∧k≤n1∧l1.take k=l2.take k∧Drew w wr) (fun i _=>n1 - (intOf i).toNat)
  case atStart=>exact⟨0,rfl,by omega,by simp,Drew.refl _⟩
  case round=>
   obtain⟨k,rfl,hk,ht,m,rfl⟩:=hrel
   have HT:=hid ht
   clear ht
   by_cases hlt:k<n1
   ·have hltI:(k:Int)<n1:=by omega
    obtain⟨a,rfl,ha⟩:=G1.out k (.string (bs l1[k])) (by simp;exact⟨_,List.getElem?_eq_getElem (by omega),rfl⟩)
    obtain⟨b,rfl,hb⟩:=G2.out k (.string (bs l2[k])) (by simp;exact⟨_,List.getElem?_eq_getElem (by omega),rfl⟩)
    have x1:(0:Int)≤k:=by omega
    have x2:(k:Int).toNat=k:=by omega
    have HEQ:=hid (show l1[k]=l2[k]→l1.take (k+1)=l2.take (k+1) from fun h=>by rw[List.take_succ_eq_append_getElem (by omega),List.take_succ_eq_append_getElem (by omega),HT.out,h])
    have HNE:=hid (show l1[k]≠l2[k]→(l1==l2)=false from fun h=>by rw[beq_eq_false_iff_ne];rintro rfl;exact h rfl)
    generalize l1[k]=x at ha HEQ HNE
    generalize l2[k]=y at hb HEQ HNE
    have KK:=hid (show k+1≤n1 by omega)
    by_cases hxy:x=y
    ·subst hxy
     go_wp2_with fail
     go_quiet (fail)
     go_wp2_with fail
     go_roundw
     case rel=>exact⟨k+1,by go_num,KK.out,by first|exact HEQ.out rfl|exact HEQ.out trivial,by first|exact Drew.drewN _ _|exact(Drew.drewN _ _).trans (Drew.drewN _ _)⟩
     case measure=>simp[intOf];omega
    ·have hb1:((bs x).toList==(bs y).toList)=false:=by rw[ByteArray.toList_eq,ByteArray.toList_eq];simpa using hxy
     go_wp2_with fail
     go_quiet (fail)
     go_wp2_with fail
     go_ret
     exact⟨by rw[HNE.out hxy];rfl,by first|exact Drew.drewN _ _|exact(Drew.drewN _ _).trans (Drew.drewN _ _)⟩
   ·have hltI:¬(k:Int)<n1:=by omega
    have hll:l1=l2:=by
     have:=HT.out
     rwa [List.take_of_length_le (by omega),List.take_of_length_le (by omega)] at this
    go_wp2_with fail
    go_ret
    have hb2:(l1==l2)=true:=by rw[hll];simp
    exact⟨by first|rfl|(rw[hb2];rfl),Drew.drewN _ _⟩
 ·have hb1:((n1:Int)==(n2:Int))=false:=by simp;omega
  have hI:¬(n1:Int)=n2:=by omega
  have hne:(l1==l2)=false:=by rw[beq_eq_false_iff_ne];rintro rfl;omega
  go_enter Tryz.func10,Tryz.ntmps10
  go_wp2_with fail
  go_ret
  exact⟨by rw[hne];rfl,Drew.refl _⟩
theorem zs0{w:World}{b n:Nat}{cs:Array Value}{t:TypeId}{vals:List Value}(k:Nat)(h:w.heap[b]?=some (.cells cs t (0,0)))(hc:cs.toList=vals)(hn:vals.length=n * k)(hm:n≤1000000):SliceIs w (.slice (some ⟨b,0,none⟩) n n) k vals:=by
 refine .inr ⟨⟨b,0,none⟩,n,n,rfl,Nat.le_refl _,by unfold maxLen;omega,hn,fun i u hu=>?_⟩
 subst hc
 have:w.cell? ⟨b,i,none⟩=some u:=by simp only[World.cell?,h];simpa using hu
 have e:(⟨b,0,none⟩:Addr).add i=⟨b,i,none⟩:=by simp[Addr.add];omega
 rw[e];exact this
theorem zvl{a:Int}(h:0≤a∧a<4294967296):zi1 a=true:=(znf a).2 h
theorem yat{a:Int}(h:¬(0≤a∧a<4294967296)):zi1 a=false:=by
 rw[←Bool.not_eq_true];exact fun e=>h ((znf a).1 e)
theorem yno(s0:Option Addr)(n0 c0:Nat)(l:List Blk)(size:Int)(w:World)(hl:SliceIs w (.slice s0 n0 c0) 3 (zba l)):
  Calls Tryz.prog 59 #[.slice s0 n0 c0,.int .i64 size] w fun e w'=>e=.returned (rfv (chk l size))∧Below w.heap.size w w':=by
 have hlen:l.length=n0∧c0≤maxLen∧n0≤c0:=by
  obtain⟨s0',n0',c0',e1,e2,e3,e4,_⟩:=hl.get
  cases e1
  rw[zfg] at e2
  exact⟨by omega,e4,e3⟩
 obtain⟨rfl,hc0,hc1⟩:=hlen
 unfold maxLen at hc0
 have HB0:=hid (zb0 w (.cells #[.int .i64 0,.int .i64 0] 64))
 have HLS:=hid (hl.below HB0.out)
 have MK:=hid (ymb (chk l size))
 clear hl
 by_cases hs:1≤size∧size≤64
 ·have hchk:=znu (l:=l) hs
  have HCH:=hid hchk
  obtain⟨hs1,hs2⟩:=hs
  clear hchk
  go_enter Tryz.func59,Tryz.ntmps59
  go_wp2_with fail
  go_loopw [5,6,7,8] (fun all i _ _ wr=>∃(k:Nat)(a:Int),i=.int .i64 k∧k≤l.length∧all=.int .i64 a∧0≤a∧a≤4000∧chk l size=zlw size (l.drop k) k a∧wr=w.alloc (.cells #[.int .i64 0,.int .i64 0] 64)) (fun _ i _ _ _=>l.length - (intOf i).toNat)
  case atStart=>exact⟨0,0,rfl,by omega,rfl,by omega,by omega,HCH.out,rfl⟩
  case round=>
   obtain⟨k,a,rfl,hk,rfl,ha0,ha1,hf,rfl⟩:=hrel
   have HF:=hid hf
   clear hf
   by_cases hlt:k<l.length
   ·have hltI:(k:Int)<l.length:=by omega
    obtain⟨s0',n0',c0',e1,_,_,_,g1⟩:=HLS.out.get
    cases e1
    obtain⟨g2,g3,g4⟩:=zgk l k hlt
    obtain⟨ad,rfl,d0⟩:=g1 _ _ g2
    obtain⟨a',e',d1⟩:=g1 _ _ g3
    cases e'
    clear g1 g2 g3 g4
    have KK:=hid (show k+1≤l.length by omega)
    have BAD:=hid (fun hb=>HF.out.trans (zys (size:=size) (all:=a) hlt hb))
    have FULL:=hid (fun hb hf=>HF.out.trans (zty (size:=size) (all:=a) hlt hb hf))
    have NEXT:=hid (fun hb hf=>HF.out.trans (znv (size:=size) (all:=a) hlt hb hf))
    have x1:(0:Int)≤k:=by omega
    have x2:(k:Int).toNat=k:=by omega
    generalize l[k]=b at d0 d1 BAD FULL NEXT
    obtain⟨bn,bw,bS⟩:=b
    have d1:=zao d1
    simp only[] at d0 d1
    have CASES:bn<1∨(¬bn<1∧size<bn)∨(¬bn<1∧¬size<bn):=by omega
    have IW:=hid (fun(w':World)=>yas bw w')
    by_cases hw:0≤bw∧bw<4294967296
    ·have IWV:=zvl hw
     rw[IWV] at IW
     have GOODB:Hid (1≤bn→bn≤size→(¬bn<size∨l.length=k+1)→¬zyx ⟨bn,bw,bS⟩ size (decide (l.length=k+1))):=fun h1 h2 h3 h=>by
      unfold zyx at h
      simp only[decide_eq_false_iff_not] at h
      omega
     clear IWV
     rcases CASES with b1|⟨b1,b2⟩|⟨b1,b2⟩
     ·have hb:=hid (BAD.out (.inl b1))
      clear BAD FULL NEXT GOODB
      go_wp2_with fail
      refine(IW.out _).mono ?_
      rintro e w1⟨rfl,rfl⟩
      go_wp2_with fail
      go_returns
      exact⟨by rw[←MK.out _ _ hb.out];rfl,zb0 _ _⟩
     ·have hb:=hid (BAD.out (.inr (.inl b2)))
      clear BAD FULL NEXT GOODB
      go_wp2_with fail
      refine(IW.out _).mono ?_
      rintro e w1⟨rfl,rfl⟩
      go_wp2_with fail
      go_returns
      exact⟨by rw[←MK.out _ _ hb.out];rfl,zb0 _ _⟩
     ·by_cases b3:bn<size∧l.length≠k+1
      ·have hb:=hid (BAD.out (.inr (.inr (.inl ⟨b3.1,by simpa using b3.2⟩))))
       obtain⟨b4,b5⟩:=b3
       have b6:(k:Int)<(l.length:Int) - 1:=by omega
       clear BAD FULL NEXT GOODB b5
       go_wp2_with fail
       refine(IW.out _).mono ?_
       rintro e w1⟨rfl,rfl⟩
       go_wp2_with fail
       go_returns
       exact⟨by rw[←MK.out _ _ hb.out];rfl,zb0 _ _⟩
      ·have HG:=hid (GOODB.out (by omega) (by omega) (by omega))
       have b4:¬bn<size∨bn<size∧¬(k:Int)<(l.length:Int) - 1:=by omega
       clear BAD GOODB b3
       by_cases b7:4000<a+bn
       ·have hb:=hid (FULL.out HG.out b7)
        clear FULL NEXT
        rcases b4 with b4|⟨b4,b5⟩
        all_goals
         go_wp2_with fail
         refine(IW.out _).mono ?_
         rintro e w1⟨rfl,rfl⟩
         go_wp2_with fail
         go_returns
         exact⟨by rw[←MK.out _ _ hb.out];rfl,zb0 _ _⟩
       ·have hb:=hid (NEXT.out HG.out b7)
        clear FULL NEXT
        rcases b4 with b4|⟨b4,b5⟩
        all_goals
         go_wp2_with fail
         refine(IW.out _).mono ?_
         rintro e w1⟨rfl,rfl⟩
         go_wp2_with fail
         go_roundw
         case rel=>exact⟨k+1,_,by go_num,KK.out,rfl,by omega,by omega,hb.out,by first|rfl|trivial⟩
         case measure=>simp[intOf];omega
    ·have IWV:=yat hw
     rw[IWV] at IW
     have hb:Hid (chk l size=(2,(k:Int))):=BAD.out (by unfold zyx;simp only[decide_eq_false_iff_not];omega)
     clear IWV BAD FULL NEXT hw
     rcases CASES with b1|⟨b1,b2⟩|⟨b1,b2⟩
     all_goals
      go_wp2_with fail
      refine(IW.out _).mono ?_
      rintro e w1⟨rfl,rfl⟩
      go_wp2_with fail
      go_returns
      exact⟨by rw[←MK.out _ _ hb.out];rfl,zb0 _ _⟩
   ·have hltI:¬(k:Int)<l.length:=by omega
    have hb:=hid (HF.out.trans (zrg (size:=size) (all:=a) (by omega:l.length≤k)))
    have hbb:=HB0.out
    have hfz:(w.alloc (.cells #[.int .i64 0,.int .i64 0] 64)).heap[w.heap.size]?=some (.cells #[.int .i64 0,.int .i64 0] 64 (0,0)):=heap_alloc_new _ _
    generalize w.alloc (.cells #[.int .i64 0,.int .i64 0] 64)=w0 at *
    have HZ:=hid hfz
    clear hfz
    go_wp2_with fail
    refine(zhg _).mono ?_
    rintro e w1⟨rfl,b1⟩
    have hz1:=(b1.block w.heap.size (lt_of_block HZ.out)).trans HZ.out
    have f0:w1.frozen? ⟨w.heap.size,0,none⟩=false:=by simp[World.frozen?,hz1]
    have f1:w1.frozen? ⟨w.heap.size,1,none⟩=false:=by simp[World.frozen?,hz1]
    have e0:w1.cell? ⟨w.heap.size,0,none⟩=some (.int .i64 0):=by simp[World.cell?,hz1]
    have e1:w1.cell? ⟨w.heap.size,1,none⟩=some (.int .i64 0):=by simp[World.cell?,hz1]
    obtain⟨r0,r1⟩:=zut hz1 (.int .i64 0) (.int .i64 (-1))
    have bb:=((zaa hbb b1).setCell (p:=⟨w.heap.size,0,none⟩) (Nat.le_refl _) (.int .i64 0)).setCell (p:=⟨w.heap.size,1,none⟩) (Nat.le_refl _) (.int .i64 (-1))
    go_wp2_with fail
    generalize (w1.setCell ⟨w.heap.size,0,none⟩ (.int .i64 0)).setCell ⟨w.heap.size,1,none⟩ (.int .i64 (-1))=w2 at r0 r1 bb ⊢
    (try simp only[Exit.inBlock,Exit.then])
    refine bodyPost_ret (by simp[results,Tryz.results59,go_sem,r0,r1];try rfl) rfl ?_
    exact⟨by rw[←MK.out _ _ hb.out];rfl,bb⟩
 ·have HCH:=hid (zyr (l:=l) hs)
  have hs3:size<1∨(¬size<1∧64<size):=by omega
  have hfz:(w.alloc (.cells #[.int .i64 0,.int .i64 0] 64)).heap[w.heap.size]?=some (.cells #[.int .i64 0,.int .i64 0] 64 (0,0)):=heap_alloc_new _ _
  have HZ:=hid hfz
  clear hs hfz
  rcases hs3 with h|⟨h,h'⟩
  all_goals
   go_enter Tryz.func59,Tryz.ntmps59
   go_wp2_with fail
   refine(zsc _ _).mono ?_
   rintro e w1⟨rfl,b1⟩
   have hz1:=(b1.block w.heap.size (lt_of_block HZ.out)).trans HZ.out
   have f0:w1.frozen? ⟨w.heap.size,0,none⟩=false:=by simp[World.frozen?,hz1]
   have f1:w1.frozen? ⟨w.heap.size,1,none⟩=false:=by simp[World.frozen?,hz1]
   have e0:w1.cell? ⟨w.heap.size,0,none⟩=some (.int .i64 0):=by simp[World.cell?,hz1]
   have e1:w1.cell? ⟨w.heap.size,1,none⟩=some (.int .i64 0):=by simp[World.cell?,hz1]
   obtain⟨r0,r1⟩:=zut hz1 (.int .i64 2) (.int .i64 (-1))
   have bb:=((zaa HB0.out b1).setCell (p:=⟨w.heap.size,0,none⟩) (Nat.le_refl _) (.int .i64 2)).setCell (p:=⟨w.heap.size,1,none⟩) (Nat.le_refl _) (.int .i64 (-1))
   go_wp2_with fail
   generalize (w1.setCell ⟨w.heap.size,0,none⟩ (.int .i64 2)).setCell ⟨w.heap.size,1,none⟩ (.int .i64 (-1))=w2 at r0 r1 bb ⊢
   (try simp only[Exit.inBlock,Exit.then])
   refine bodyPost_ret (by simp[results,Tryz.results59,go_sem,r0,r1];try rfl) rfl ?_
   exact⟨by rw[←MK.out _ _ HCH.out];rfl,bb⟩
end Go.Proofs.YtakhkcaihhpehaaGreatDoor
