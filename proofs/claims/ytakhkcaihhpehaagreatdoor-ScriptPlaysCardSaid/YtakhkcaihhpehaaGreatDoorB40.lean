/- Texts of one proof, one behind the other: RefPut, DocPut, RefDrop, DocTell. -/
import Derived.Test.YtakhkcaihhpehaaGreatDoorB34
import Derived.Test.YtakhkcaihhpehaaGreatDoorB03
import Derived.Test.YtakhkcaihhpehaaGreatDoorB18
import Derived.Test.YtakhkcaihhpehaaGreatDoorB39
import Derived.Test.YtakhkcaihhpehaaGreatDoorB29
namespace Go.Proofs.YtakhkcaihhpehaaGreatDoor
open Go.RowKit
open Lib (hid)
set_option linter.unusedVariables false
set_option maxRecDepth 100000
set_option maxHeartbeats 51200000
theorem yqo{w:World}{b:Nat}{x y:Value}{t:TypeId}(h:w.heap[b]?=some (.cells #[x,y] t (0,0)))(u v:Value):
  ((w.setCell ⟨b,0,none⟩ u).setCell ⟨b,1,none⟩ v).drew.cell? ⟨b,0,none⟩=some u∧((w.setCell ⟨b,0,none⟩ u).setCell ⟨b,1,none⟩ v).drew.cell? ⟨b,1,none⟩=some v:=zut h u v
theorem yqq(l:List PF)(v:Value)(n d:List UInt8)(w:World)(hl:SliceIs w v 2 (zah l))(hnm:∀x∈l,x.n.length≤1000000000∧x.d.length≤1000000000)(hlen:l.length≤1000000)(hf:(zav l).1≠0):
  Calls Tryz.prog 21 #[v,.string (bs n),.string (bs d)] w fun e w'=>e=.returned (.tuple #[.slice none 0 0,rfv (zav l)])∧Below w.heap.size w w':=by
 have HB0:=hid (zb0 w (.cells #[.int .i64 0,.int .i64 0] 64))
 have FF:=zf1 l v _ (hl.below HB0.out) hnm hlen
 have hz0:=heap_alloc_new w (.cells #[.int .i64 0,.int .i64 0] 64)
 rw[zdz] at FF
 rw[zdz]
 generalize zav l=q at *
 have HFF:=hid FF
 have HZ0:=hid hz0
 have hq:(0:Int)<q.1:=by omega
 clear FF hl hnm hf hz0
 go_enter Tryz.func21,Tryz.ntmps21
 go_wp2_with fail
 refine HFF.out.mono ?_
 rintro e w1⟨rfl,b1⟩
 have hz1:=(b1.block w.heap.size (by simp)).trans HZ0.out
 have hlt1:w.heap.size<w1.heap.size:=lt_of_block hz1
 have bb1:=zaa HB0.out b1
 clear b1 HFF
 go_wp2_with fail
 have hy:=heap_alloc_new w1 (.cells #[.int .i64 q.1,.int .i64 q.2] 64)
 have hx:=(heap_alloc_old w1 (.cells #[.int .i64 q.1,.int .i64 q.2] 64) hlt1).trans hz1
 have bb2:=bb1.alloc bb1.size (.cells #[.int .i64 q.1,.int .i64 q.2] 64)
 clear hz1 bb1
 generalize w1.alloc (.cells #[.int .i64 q.1,.int .i64 q.2] 64)=w2 at *
 generalize w1.heap.size=g at *
 have f0:w2.frozen? ⟨w.heap.size,0,none⟩=false:=by simp[World.frozen?,hx]
 have f1:w2.frozen? ⟨w.heap.size,1,none⟩=false:=by simp[World.frozen?,hx]
 have e0:w2.cell? ⟨w.heap.size,0,none⟩=some (.int .i64 0):=by simp[World.cell?,hx]
 have e1:w2.cell? ⟨w.heap.size,1,none⟩=some (.int .i64 0):=by simp[World.cell?,hx]
 have c0:w2.cell? ⟨g,0,none⟩=some (.int .i64 q.1):=by simp[World.cell?,hy]
 have c1:w2.cell? ⟨g,1,none⟩=some (.int .i64 q.2):=by simp[World.cell?,hy]
 obtain⟨r0,r1⟩:=yqo hx (.int .i64 q.1) (.int .i64 q.2)
 have bb:=((bb2.setCell (p:=⟨w.heap.size,0,none⟩) (Nat.le_refl _) (.int .i64 q.1)).setCell (p:=⟨w.heap.size,1,none⟩) (Nat.le_refl _) (.int .i64 q.2))
 clear hx hy bb2
 go_region_law (fail)
 all_goals
  go_wp2_with fail
  refine bodyPost_ret (by simp[results,Tryz.results21,go_sem,r0,r1];try rfl) rfl ?_
  exact⟨rfl,zac bb 1⟩
theorem zuu{P:Program}(t:TypeId)(a b:List UInt8)(w:World):(binOp .geq t (.string (bs a)) (.string (bs b))).run P w=.ok (.bool (!ltL a b)) w:=by
 simp only[binOp,Op.stringOp,za4]
 rfl
theorem zdn{w w':World}{o:Obj}{b g m:Nat}{v:Value}{xs:List Value}(ho:w.ownsRow (g+1) 126 2 v m xs)(hg:(w.alloc o).grownBy w' v.ownBlock)(hb:b<g)(hs:g<w.heap.size):
  w'.heap[b]?=w.heap[b]?∧w'.heap[g]?=w.heap[g]?:=by
 refine⟨(hg.block b (by simp;omega) (fun e=>by have:=(ho.lt _ e.symm).1;omega)).trans (heap_alloc_old _ _ (by omega)),(hg.block g (by simp;omega) (fun e=>by have:=(ho.lt _ e.symm).1;omega)).trans (heap_alloc_old _ _ hs)⟩
theorem zga{w w0 w':World}{o:Obj}{B g m:Nat}{v:Value}{xs:List Value}(h:Below B w0 w)(ho:w.ownsRow (g+1) 126 2 v m xs)(hg:(w.alloc o).grownBy w' v.ownBlock)(hb:B≤g)(hs:B≤w.heap.size):Below B w0 w':=
 (h.alloc hs o).grown hg (by simp;omega) (fun j hj=>by have:=(ho.lt j hj).1;omega)
theorem zqi{l:List PF}{w w':World}{ad:Addr}{m c i:Nat}{u:Value}(h:SliceIs w (.slice (some ad) m c) 2 (zah l))(b:Below w.heap.size w w')(hu:(zah l)[i]?=some u):w'.cell? (ad.add i)=some u:=by
 obtain⟨s',n',c',e1,_,_,_,g1⟩:=(h.below b).get
 cases e1
 obtain⟨a,e,d⟩:=g1 _ _ hu
 cases e
 exact d
theorem zzj{w:World}{b g:Nat}{o:Obj}(h:w.heap[b]?=some o)(hb:b≠g)(u v:Value):((w.setCell ⟨g,0,none⟩ u).setCell ⟨g,1,none⟩ v).heap[b]?=some o:=by
 have hl:=lt_of_block h
 have g1:=zam (zap w g 0 u) (zap (w.setCell ⟨g,0,none⟩ u) g 1 v)
 exact(g1.block b hl (fun e=>hb (Option.some.inj e))).trans h
theorem ycs{w w':World}{base g m:Nat}{v:Value}{xs:List Value}(h:w'.ownsRow base 126 2 v m xs)(ho:w.ownsRow (g+1) 126 2 v m xs)(b:Below w.heap.size w w')(x y:Value):
  ((w'.setCell ⟨g,0,none⟩ x).setCell ⟨g,1,none⟩ y).ownsRow base 126 2 v m xs:=by
 have k1:v.ownBlock≠some g:=fun e=>by have:=(ho.lt g e).1;omega
 exact ownsRow_setCell_other (ownsRow_setCell_other h (a:=⟨g,0,none⟩) k1 x) (a:=⟨g,1,none⟩) k1 y
theorem yjc(l:List PF)(v:Value)(n d:List UInt8)(w:World)(hl:SliceIs w v 2 (zah l))(hd:FOk l)(hf:FWF l)(hn:n.length≤1000000000)(hdd:d.length≤1000000000):
  Calls Tryz.prog 21 #[v,.string (bs n),.string (bs d)] w fun e w'=>∃r,e=.returned (.tuple #[r,rfv (zav (zal l n d))])∧((zav (zal l n d)).1=0→w'.ownsRow w.heap.size 126 2 r (zal l n d).length (zah (zal l n d)))∧((zav (zal l n d)).1≠0→r=.slice none 0 0)∧Below w.heap.size w w':=by
 have HB0:=hid (zb0 w (.cells #[.int .i64 0,.int .i64 0] 64))
 have hfew:=hf.few
 have HB4:=hid (show ∀x∈l,x.n.length≤1000000000∧x.d.length≤1000000000 from fun x hx=>by obtain⟨h1,h2⟩:=hf.each x hx;have:=((zbi _).1 h1).2.1;omega)
 have FF:=zf1 l v _ (hl.below HB0.out) HB4.out (by omega)
 have hz0:=heap_alloc_new w (.cells #[.int .i64 0,.int .i64 0] 64)
 have hf0:zav l=(0,-1):=zfx ((zbd l).2 hf)
 rw[hf0,zdz] at FF
 simp only[] at FF
 have HPB:=hid (show ∀x∈zal l n d,x.n.length≤1000000000∧x.d.length≤1000000000 from fun x hx=>by
  rcases zfn _ _ _ _ hx with rfl|hx
  ·exact⟨hn,hdd⟩
  ·exact HB4.out x hx)
 have HPL:=hid (ztj l n d)
 have HFF:=hid FF
 have HZ0:=hid hz0
 have HSL:=hid hl
 obtain⟨s,m,c,rfl,hm,h1,h2,hg⟩:=hl.get
 rw[zat] at hm
 obtain rfl:m=l.length:=by omega
 unfold maxLen at h2
 obtain⟨i0,hi,hs0,hs1,hs2⟩:=info_parts zj1
 clear FF hl hz0 hf hd hg HB4 hf0
 go_enter Tryz.func21,Tryz.ntmps21
 go_wp2_with fail
 refine HFF.out.mono ?_
 rintro e w1⟨rfl,b1⟩
 have hz1:=(b1.block w.heap.size (by simp)).trans HZ0.out
 have hlt1:w.heap.size<w1.heap.size:=lt_of_block hz1
 have bb1:=zaa HB0.out b1
 clear b1 HFF
 go_wp2_with fail
 have hy:=heap_alloc_new w1 (.cells #[.int .i64 0,.int .i64 (-1)] 64)
 have hx:=(heap_alloc_old w1 (.cells #[.int .i64 0,.int .i64 (-1)] 64) hlt1).trans hz1
 have bb2:=bb1.alloc bb1.size (.cells #[.int .i64 0,.int .i64 (-1)] 64)
 have hg2:w1.heap.size+1=(w1.alloc (.cells #[.int .i64 0,.int .i64 (-1)] 64)).heap.size:=by simp
 clear hz1 bb1
 generalize w1.alloc (.cells #[.int .i64 0,.int .i64 (-1)] 64)=w2 at *
 generalize w1.heap.size=g at *
 have BB:=hid bb2
 clear bb2
 go_loopw [9,10,11] (fun o dn i wr=>∃(k:Nat)(D:List PF)(b:Bool),i=.int .i64 k∧k≤l.length∧dn=.bool b∧D++zsg b (l.drop k) n d=zal l n d∧wr.ownsRow (g+1) 126 2 o D.length (zah D)∧wr.heap[w.heap.size]?=some (.cells #[.int .i64 0,.int .i64 0] 64 (0,0))∧wr.heap[g]?=some (.cells #[.int .i64 0,.int .i64 (-1)] 64 (0,0))∧Below w.heap.size w wr) (fun _ _ i _=>l.length - (intOf i).toNat)
 case atStart=>exact⟨0,[],false,rfl,by omega,rfl,rfl,World.ownsRow_nil _ _ _ _,hx,hy,BB.out⟩
 case round=>
  obtain⟨k,D,b,rfl,hk,rfl,hinv,hown,hx,hy,bel⟩:=hrel
  have BW:=hid bel
  have HO:=hid hown
  have HX:=hid hx
  have HY:=hid hy
  have HI:=hid hinv
  have hDl:D.length≤l.length+1:=by have:=congrArg List.length hinv;rw[List.length_append] at this;have:=HPL.out;omega
  have HSG:=hid (lt_of_block hy)
  have HG1:=hid (show w.heap.size<g from hlt1)
  clear hown hx hy bel hinv
  by_cases hlt:k<l.length
  ·have hltI:(k:Int)<l.length:=by omega
   obtain⟨s0',n0',c0',e1,_,_,_,g1⟩:=(HSL.out.below BW.out).get
   cases e1
   obtain⟨g2,g3⟩:=zb9 l k hlt
   obtain⟨ad,rfl,d0⟩:=g1 _ _ g2
   obtain⟨a',e',d1⟩:=g1 _ _ g3
   cases e'
   have GG:=hid (And.intro g2 g3)
   clear g1 g2 g3
   have x1:(0:Int)≤k:=by omega
   have x2:(k:Int).toNat=k:=by omega
   have KK:=hid (show k+1≤l.length from hlt)
   have P0:=hid (yjb (n:=n) (d:=d) hlt)
   have P1:=hid (fun e=>ynv (n:=n) (d:=d) hlt e)
   have P2:=hid (fun e=>ynt (n:=n) (d:=d) hlt e)
   have P3:=hid (fun e=>ynu (n:=n) (d:=d) hlt e)
   generalize l[k]'hlt=x at d0 d1 GG P0 P1 P2 P3
   have d1:=zao d1
   have HN1:Hid (D.length+1≤maxLen):=by show _≤_;unfold maxLen;omega
   have HN2:Hid ((D.length+1) * 32≤140737488355328):=by show _≤_;omega
   obtain⟨va,vc,rfl⟩:=zab HO.out
   cases b with
   | true=>
    have Y:=hid (show(D++[x])++zsg true (l.drop (k+1)) n d=zal l n d by rw[List.append_assoc,←P0.out];exact HI.out)
    clear P0 P1 P2 P3 GG
    go_wp2_with (at_builtin;refine zak rfl (.tmp 48) (.tmp 53) 33 rfl (g+1) 126 i0 _ 2 32 Tryz.underlying33 hi hs0 hs1 hs2 rfl (by decide) _ D.length _ rfl (HO.out.alloc _) _ 1 [.string (bs x.n),.string (bs x.d)] rfl (zek (heap_alloc_new _ _)) rfl (fun u hu=>by simp at hu;rcases hu with rfl|rfl<;>rfl) HN1.out HN2.out (by have:=HSG.out;simp;omega) ?_;intro v' w5 hown5 hgrow _;have HO5:=hid hown5;have HG5:=hid hgrow;clear hown5 hgrow)
    go_roundw
    case rel=>exact⟨k+1,D++[x],true,by go_num,KK.out,rfl,Y.out,by rw[zbf,List.length_append];exact HO5.out,(zdn HO.out HG5.out HG1.out HSG.out).1.trans HX.out,(zdn HO.out HG5.out HG1.out HSG.out).2.trans HY.out,zga BW.out HO.out HG5.out (by have:=HG1.out;omega) BW.out.size⟩
    case measure=>simp[intOf];omega
   | false=>
    rcases zev x.n n with hx|hx|hx
    ·have hge:∀w,(binOp .geq 9 (.string (bs x.n)) (.string (bs n))).run Tryz.prog w=.ok (.bool false) w:=fun w=>by rw[zuu,hx];rfl
     have Y:=hid (show(D++[x])++zsg false (l.drop (k+1)) n d=zal l n d by rw[List.append_assoc,←P3.out hx];exact HI.out)
     clear P0 P1 P2 P3 GG hx
     go_wp2_with (at_builtin;refine zak rfl (.tmp 48) (.tmp 53) 33 rfl (g+1) 126 i0 _ 2 32 Tryz.underlying33 hi hs0 hs1 hs2 rfl (by decide) _ D.length _ rfl (HO.out.alloc _) _ 1 [.string (bs x.n),.string (bs x.d)] rfl (zek (heap_alloc_new _ _)) rfl (fun u hu=>by simp at hu;rcases hu with rfl|rfl<;>rfl) HN1.out HN2.out (by have:=HSG.out;simp;omega) ?_;intro v' w5 hown5 hgrow _;have HO5:=hid hown5;have HG5:=hid hgrow;clear hown5 hgrow)
     go_roundw
     case rel=>exact⟨k+1,D++[x],false,by go_num,KK.out,rfl,Y.out,by rw[zbf,List.length_append];exact HO5.out,(zdn HO.out HG5.out HG1.out HSG.out).1.trans HX.out,(zdn HO.out HG5.out HG1.out HSG.out).2.trans HY.out,zga BW.out HO.out HG5.out (by have:=HG1.out;omega) BW.out.size⟩
     case measure=>simp[intOf];omega
    ·have hge:∀w,(binOp .geq 9 (.string (bs x.n)) (.string (bs n))).run Tryz.prog w=.ok (.bool true) w:=fun w=>by rw[zuu,hx,zbv];rfl
     have Y:=hid (show(D++[⟨n,d⟩])++zsg true (l.drop (k+1)) n d=zal l n d by rw[List.append_assoc,←P1.out hx];exact HI.out)
     have hb:((bs x.n).toList==(bs n).toList)=true:=by rw[za4,za4];simpa using hx
     clear P0 P1 P2 P3 hx
     go_wp2_with (at_builtin;refine zak rfl (.tmp 35) (.tmp 39) 33 rfl (g+1) 126 i0 _ 2 32 Tryz.underlying33 hi hs0 hs1 hs2 rfl (by decide) _ D.length _ rfl (HO.out.alloc _) _ 1 [.string (bs n),.string (bs d)] rfl (zek (f:=⟨n,d⟩) (heap_alloc_new _ _)) rfl (fun u hu=>by simp at hu;rcases hu with rfl|rfl<;>rfl) HN1.out HN2.out (by have:=HSG.out;simp;omega) ?_;intro v' w5 hown5 hgrow _;have HO5:=hid hown5;have HG5:=hid hgrow;have B5:=hid (zga BW.out HO.out HG5.out (by have:=HG1.out;omega) BW.out.size);have e0:=zqi HSL.out B5.out GG.out.1;clear hown5 hgrow)
     go_roundw
     case rel=>exact⟨k+1,D++[⟨n,d⟩],true,by go_num,KK.out,rfl,Y.out,by rw[zbf,List.length_append];exact HO5.out,(zdn HO.out HG5.out HG1.out HSG.out).1.trans HX.out,(zdn HO.out HG5.out HG1.out HSG.out).2.trans HY.out,B5.out⟩
     case measure=>simp[intOf];omega
    ·have hge:∀w,(binOp .geq 9 (.string (bs x.n)) (.string (bs n))).run Tryz.prog w=.ok (.bool true) w:=fun w=>by rw[zuu,zco hx];rfl
     have Y:=hid (show((D++[⟨n,d⟩])++[x])++zsg true (l.drop (k+1)) n d=zal l n d by rw[List.append_assoc,List.append_assoc,←P2.out hx];exact HI.out)
     have hb:((bs x.n).toList==(bs n).toList)=false:=by rw[za4,za4,beq_eq_false_iff_ne];exact fun e=>zbm hx e.symm
     have HM1:Hid (D.length+1+1≤maxLen):=by show _≤_;unfold maxLen;omega
     have HM2:Hid ((D.length+1+1) * 32≤140737488355328):=by show _≤_;omega
     clear P0 P1 P2 P3 hx
     go_wp2_with (first
      | (at_builtin;refine zak rfl (.tmp 35) (.tmp 39) 33 rfl (g+1) 126 i0 _ 2 32 Tryz.underlying33 hi hs0 hs1 hs2 rfl (by decide) _ D.length _ rfl (HO.out.alloc _) _ 1 [.string (bs n),.string (bs d)] rfl (zek (f:=⟨n,d⟩) (heap_alloc_new _ _)) rfl (fun u hu=>by simp at hu;rcases hu with rfl|rfl<;>rfl) HN1.out HN2.out (by have:=HSG.out;simp;omega) ?_;intro v' w5 hown5 hgrow _;have HO5:=hid hown5;have HG5:=hid hgrow;have B5:=hid (zga BW.out HO.out HG5.out (by have:=HG1.out;omega) BW.out.size);have K5:=hid (zdn HO.out HG5.out HG1.out HSG.out);have HS5:=hid (lt_of_block (K5.out.2.trans HY.out));have e0:=zqi HSL.out B5.out GG.out.1;have e1:=zao (zqi HSL.out B5.out GG.out.2);obtain⟨va',vc',rfl⟩:=zab hown5;clear hown5 hgrow)
      | (at_builtin;refine zak rfl (.tmp 48) (.tmp 53) 33 rfl (g+1) 126 i0 _ 2 32 Tryz.underlying33 hi hs0 hs1 hs2 rfl (by decide) _ (D.length+1) _ rfl (HO5.out.alloc _) _ 1 [.string (bs x.n),.string (bs x.d)] rfl (zek (heap_alloc_new _ _)) rfl (fun u hu=>by simp at hu;rcases hu with rfl|rfl<;>rfl) HM1.out HM2.out (by have:=HS5.out;simp;omega) ?_;intro v' w6 hown6 hgrow _;have HO6:=hid hown6;have HG6:=hid hgrow;clear hown6 hgrow))
     go_roundw
     case rel=>exact⟨k+1,(D++[⟨n,d⟩])++[x],true,by go_num,KK.out,rfl,Y.out,by rw[zbf,zbf,List.length_append,List.length_append];exact HO6.out,(zdn HO5.out HG6.out HG1.out HS5.out).1.trans (K5.out.1.trans HX.out),(zdn HO5.out HG6.out HG1.out HS5.out).2.trans (K5.out.2.trans HY.out),zga B5.out HO5.out HG6.out (by have:=HG1.out;omega) B5.out.size⟩
     case measure=>simp[intOf];omega
  ·have hltI:¬(k:Int)<l.length:=by omega
   obtain rfl:k=l.length:=by omega
   have hb2:b=true∨b=false:=by cases b<;>simp
   rcases hb2 with rfl|rfl
   case' inl=>
    have hD:D=zal l n d:=by have:=HI.out;rw[zz4,List.append_nil] at this;exact this
    subst hD
    obtain⟨va,vc,rfl⟩:=zab HO.out
    have O:=HO
    have X5:=HX
    have Y5:=HY
    have B5:=BW
    clear HO HX HY BW HI
    generalize wr=w5 at *
    go_wp2_with fail
   case' inr=>
    have hD:D++[⟨n,d⟩]=zal l n d:=by have:=HI.out;rw[zz5] at this;exact this
    have HN1:Hid (D.length+1≤maxLen):=by show _≤_;unfold maxLen;omega
    have HN2:Hid ((D.length+1) * 32≤140737488355328):=by show _≤_;omega
    obtain⟨va0,vc0,rfl⟩:=zab HO.out
    have HDD:=hid hD
    clear hD HI
    go_wp2_with (at_builtin;refine zak rfl (.tmp 57) (.tmp 61) 33 rfl (g+1) 126 i0 _ 2 32 Tryz.underlying33 hi hs0 hs1 hs2 rfl (by decide) _ D.length _ rfl (HO.out.alloc _) _ 1 [.string (bs n),.string (bs d)] rfl (zek (f:=⟨n,d⟩) (heap_alloc_new _ _)) rfl (fun u hu=>by simp at hu;rcases hu with rfl|rfl<;>rfl) HN1.out HN2.out (by have:=HSG.out;simp;omega) ?_;intro v' w5 hown5 hgrow _;have hown5:w5.ownsRow (g+1) 126 2 v' (zal l n d).length (zah (zal l n d)):=(by rw[←HDD.out,zbf,List.length_append];exact hown5);have O:=hid hown5;have B5:=hid (zga BW.out HO.out hgrow (by have:=HG1.out;omega) BW.out.size);have X5:=hid ((zdn HO.out hgrow HG1.out HSG.out).1.trans HX.out);have Y5:=hid ((zdn HO.out hgrow HG1.out HSG.out).2.trans HY.out);obtain⟨va,vc,rfl⟩:=zab hown5;clear hown5 hgrow)
   all_goals
    clear HSL HZ0
    have CK:=hid (zf1 (zal l n d) _ w5 (SliceIs.ownedK O.out) HPB.out (by have:=HPL.out;omega))
    rw[zdz] at CK
    obtain⟨q,hq⟩:∃q,zav (zal l n d)=q:=⟨_,rfl⟩
    rw[hq] at CK
    have HQ:=hid hq
    clear hq
    refine CK.out.mono ?_
    rintro e w6⟨rfl,b6⟩
    have hx6:=(b6.block w.heap.size (lt_of_block X5.out)).trans X5.out
    have hy6:=(b6.block g (lt_of_block Y5.out)).trans Y5.out
    have bel6:=zaa B5.out b6
    have O6:=hid (za1 (zad O.out b6) (show w.heap.size≤g+1 by have:=HG1.out;omega))
    have f0:w6.frozen? ⟨g,0,none⟩=false:=by simp[World.frozen?,hy6]
    have f1:w6.frozen? ⟨g,1,none⟩=false:=by simp[World.frozen?,hy6]
    have e0:w6.cell? ⟨g,0,none⟩=some (.int .i64 0):=by simp[World.cell?,hy6]
    have e1:w6.cell? ⟨g,1,none⟩=some (.int .i64 (-1)):=by simp[World.cell?,hy6]
    obtain⟨r0,r1⟩:=zut hy6 (.int .i64 q.1) (.int .i64 q.2)
    have xx:((w6.setCell ⟨g,0,none⟩ (.int .i64 q.1)).setCell ⟨g,1,none⟩ (.int .i64 q.2)).heap[w.heap.size]?=some (.cells #[.int .i64 0,.int .i64 0] 64 (0,0)):=(zzj hx6 (by have:=HG1.out;omega) _ _)
    have bb:=(bel6.setCell (p:=⟨g,0,none⟩) (by have:=HG1.out;show w.heap.size≤g;omega) (.int .i64 q.1)).setCell (p:=⟨g,1,none⟩) (by have:=HG1.out;show w.heap.size≤g;omega) (.int .i64 q.2)
    have O7:=hid (ycs (base:=w.heap.size) O6.out O.out b6 (.int .i64 q.1) (.int .i64 q.2))
    clear b6 hx6 hy6 bel6 CK
    have KB:=hid (show(Value.slice va (zal l n d).length vc).ownBlock≠some w.heap.size from fun e=>by have:=(O.out.lt _ e).1;have:=HG1.out;omega)
    by_cases hq0:q.1=0
    ·have hqI:¬(0:Int)<q.1:=by omega
     have HQ0:=hid hq0
     have HQQ:=hid (show q=(0,-1) by rw[←HQ.out];exact zfx (by have:=HQ.out;unfold zav at this;rw[this];exact hq0))
     clear hq0
     go_wp2_with fail
     generalize (w6.setCell ⟨g,0,none⟩ (.int .i64 q.1)).setCell ⟨g,1,none⟩ (.int .i64 q.2)=w7 at *
     refine(zhg w7).mono ?_
     rintro e w8⟨rfl,b8⟩
     have hx8:=(b8.block w.heap.size (lt_of_block xx)).trans xx
     have bb8:=((zaa bb b8).setCell (p:=⟨w.heap.size,0,none⟩) (Nat.le_refl _) (.int .i64 0)).setCell (p:=⟨w.heap.size,1,none⟩) (Nat.le_refl _) (.int .i64 (-1))
     have O8:=hid (ownsRow_setCell_other (ownsRow_setCell_other (zad O7.out b8) (a:=⟨w.heap.size,0,none⟩) KB.out (.int .i64 0)) (a:=⟨w.heap.size,1,none⟩) KB.out (.int .i64 (-1)))
     have f0:w8.frozen? ⟨w.heap.size,0,none⟩=false:=by simp[World.frozen?,hx8]
     have f1:w8.frozen? ⟨w.heap.size,1,none⟩=false:=by simp[World.frozen?,hx8]
     have e0:w8.cell? ⟨w.heap.size,0,none⟩=some (.int .i64 0):=by simp[World.cell?,hx8]
     have e1:w8.cell? ⟨w.heap.size,1,none⟩=some (.int .i64 0):=by simp[World.cell?,hx8]
     obtain⟨r0,r1⟩:=zut hx8 (.int .i64 0) (.int .i64 (-1))
     clear b8 hx8 xx bb
     go_wp2_with fail
     refine bodyPost_ret (by simp[results,Tryz.results21,go_sem,r0,r1];try rfl) rfl ?_
     exact⟨_,by rw[HQ.out,HQQ.out,zdz];rfl,fun _=>O8.out,fun h=>absurd (by rw[HQ.out];exact HQ0.out) h,bb8⟩
    ·have hqI:(0:Int)<q.1:=by omega
     have HQ0:=hid hq0
     clear hq0
     go_wp2_with fail
     generalize (w6.setCell ⟨g,0,none⟩ (.int .i64 q.1)).setCell ⟨g,1,none⟩ (.int .i64 q.2)=w7 at *
     clear f0 f1 e0 e1
     have f0:w7.frozen? ⟨w.heap.size,0,none⟩=false:=by simp[World.frozen?,xx]
     have f1:w7.frozen? ⟨w.heap.size,1,none⟩=false:=by simp[World.frozen?,xx]
     have e0:w7.cell? ⟨w.heap.size,0,none⟩=some (.int .i64 0):=by simp[World.cell?,xx]
     have e1:w7.cell? ⟨w.heap.size,1,none⟩=some (.int .i64 0):=by simp[World.cell?,xx]
     obtain⟨s0,s1⟩:=yqo xx (.int .i64 q.1) (.int .i64 q.2)
     have bb8:=((bb.setCell (p:=⟨w.heap.size,0,none⟩) (Nat.le_refl _) (.int .i64 q.1)).setCell (p:=⟨w.heap.size,1,none⟩) (Nat.le_refl _) (.int .i64 q.2))
     clear xx bb
     go_region_law (fail)
     all_goals
      go_wp2_with fail
      refine bodyPost_ret (by simp[results,Tryz.results21,go_sem,s0,s1];try rfl) rfl ?_
      exact⟨_,by rw[HQ.out,zdz],fun h=>absurd (by rw[HQ.out] at h;exact h) HQ0.out,fun _=>rfl,zac bb8 1⟩
section
variable{w0 w w':World}{B mb:Nat}{A:DmA}{s:SP}
attribute [local irreducible] zec zcc zdu
theorem zoo(a:List UInt8)(h:DmAt w0 w B mb A s):
  Calls Tryz.prog 22 #[.pointer (some ⟨mb,0,none⟩),.string (bs a)] w fun e w'=>e=.returned (.tuple #[A.fv ((zbx a).getD false),.bool (zbx a).isSome])∧w=w':=by
 obtain⟨⟨c0,c1,_,_⟩,_⟩:=h.cs
 obtain⟨vfa,vfc,hvf⟩:=zab h.fr
 obtain⟨vta,vtc,hvt⟩:=zab h.tt
 rw[hvf] at c0
 rw[hvt] at c1
 have ef:A.fv true=.slice vfa s.fr.length vfc:=hvf
 have et:A.fv false=.slice vta s.tt.length vtc:=hvt
 clear h hvf hvt
 by_cases h1:a=zpu
 ·have k1:=zc3 a [102,114,111,109] (by rw[h1];rfl)
  have e1:zbx a=some true:=by unfold zbx;rw[if_pos h1]
  rw[e1,Option.getD_some,ef]
  clear h1 e1 ef et c1
  go_enter Tryz.func22,Tryz.ntmps22
  go_wp2_with fail
  go_returns
  exact⟨rfl,rfl⟩
 ·have k1:=zbj a [102,114,111,109] h1
  by_cases h2:a=wTo
  ·have k2:=zc3 a [116,111] (by rw[h2];rfl)
   have e1:zbx a=some false:=by unfold zbx;rw[if_neg h1,if_pos h2]
   rw[e1,Option.getD_some,et]
   clear h1 h2 e1 ef et c0
   go_enter Tryz.func22,Tryz.ntmps22
   go_wp2_with fail
   go_returns
   exact⟨rfl,rfl⟩
  ·have k2:=zbj a [116,111] h2
   have e1:zbx a=none:=by unfold zbx;rw[if_neg h1,if_neg h2]
   rw[e1,Option.getD_none,et]
   clear h1 h2 e1 ef et c0
   go_enter Tryz.func22,Tryz.ntmps22
   go_wp2_with fail
   go_returns
   exact⟨rfl,rfl⟩
def PAns(w0 w:World)(B mb:Nat)(x:SP×An)(e:Ending)(w':World):Prop:=e=.returned (.int .i64 (x.2.2:Nat))∧(∃A',DmAt w0 w' B mb A' x.1)∧Chg w w' (fun x=>x<B)
theorem yms:(Tryz.prog.info? 64).map (fun i=>(i.zero,i.size,i.bytes))=some (some (.agg #[.int .i64 0,.int .i64 0]),2,16):=by kernel_rfl
theorem zfa(w:World)(o:Obj):Below w.heap.size w (w.alloc o):=((Chg.refl w (fun _=>False)).alloc o).below (Below.refl _ _) (fun _ h=>h.elim)
attribute [local irreducible] putF zal zbx SP.put zav
theorem yi5(rest:List UInt8)(h:DmAt w0 w B mb A s)(hI:SInv s)(hr:rest.length≤1000):
  Calls Tryz.prog 12 #[.pointer (some ⟨mb,0,none⟩),.string (bs rest)] w (PAns w0 w B mb (s.put rest)):=by
 have hB:=zgg 32 rest
 have hA:=zii 32 rest
 have hBB:=zgg 32 (zcc 32 rest)
 have hBA:=zii 32 (zcc 32 rest)
 have HX:=hid h
 have C1:=hid (zxc rest w (by omega))
 have C2:=hid (fun(w':World)=>zxc (zcc 32 rest) w' (by omega))
 have PU:=hid (fun(b:Bool)(w':World)(bb:Below w.heap.size w w')=>yjc (s.files b) (A.fv b) (zec 32 (zcc 32 rest)) (zcc 32 (zcc 32 rest)) w' (SliceIs.ownedK ((h.below bb).atF b).2.2) (hI.files b).wf.okx (hI.files b).wf (by omega) (by omega))
 have PE:=hid (fun b=>zqj (n:=zec 32 (zcc 32 rest)) (d:=zcc 32 (zcc 32 rest)) ((zbd (s.files b)).2 (hI.files b).wf))
 have PFF:=hid (fun(b:Bool)(w':World)(bb:Below w.heap.size w w')=>(h.below bb).atF b)
 have Q1:=hid (fun h=>zwy (s:=s) (r:=rest) h)
 have Q2:=hid (fun h=>zwx (s:=s) (r:=rest) h)
 have Q3:=hid (fun h=>zrz (s:=s) (r:=rest) h)
 have Q4:=hid (fun b h h1 h2 hp=>zww (s:=s) (r:=rest) (b:=b) h h1 h2 hp)
 have Q5:=hid (fun b h h1 h2 hp=>ycm (s:=s) (r:=rest) (b:=b) h h1 h2 hp)
 clear h hI hB hA hBB hBA hr
 obtain⟨i0,hi,hs0,hs1,hs2⟩:=info_parts yms
 cases h1:(zdu 32 rest).isSome with
 | false=>
  rw[h1] at C1
  rw[Q1.out h1]
  clear Q1 Q2 Q3 Q4 Q5 PU PFF h1 PE
  go_enter Tryz.func12,Tryz.ntmps12
  go_wp2_with fail
  refine C1.out.mono ?_
  rintro e w1⟨rfl,b1⟩
  have B1:=hid b1
  clear C1 b1
  go_wp2_with fail
  refine(C2.out _).mono ?_
  rintro e w2⟨rfl,b2⟩
  have B2:=hid (zaa B1.out b2)
  clear C2 b2
  go_wp2_with fail
  go_ret
  exact⟨rfl,⟨A,HX.out.below B2.out⟩,Chg.of_below B2.out _⟩
 | true=>
  rw[h1] at C1
  cases h2:(zdu 32 (zcc 32 rest)).isSome with
  | false=>
   simp only[h2] at C2
   rw[Q2.out h2]
   clear Q1 Q2 Q3 Q4 Q5 PU PFF h1 h2 PE
   go_enter Tryz.func12,Tryz.ntmps12
   go_wp2_with fail
   refine C1.out.mono ?_
   rintro e w1⟨rfl,b1⟩
   have B1:=hid b1
   clear C1 b1
   go_wp2_with fail
   refine(C2.out _).mono ?_
   rintro e w2⟨rfl,b2⟩
   have B2:=hid (zaa B1.out b2)
   clear C2 b2
   go_wp2_with fail
   go_ret
   exact⟨rfl,⟨A,HX.out.below B2.out⟩,Chg.of_below B2.out _⟩
  | true=>
   simp only[h2] at C2
   by_cases g1:zec 32 rest=zpu
   ·have k1:=zc3 (zec 32 rest) [102,114,111,109] (by rw[g1];rfl)
    have e1:zbx (zec 32 rest)=some true:=by unfold zbx;rw[if_pos g1]
    have PU:=hid (PU.out true)
    have PE:=PE.out true
    have PFF:=hid (PFF.out true)
    have HP:=hid (fun(w':World)(A:DmA)(h:DmAt w0 w' B mb A s)(l:List PF)(base:Nat)(r:Value)(hr:w'.ownsRow base 126 2 r l.length (zah l))(hb:B≤base)=>h.setFr hr hb)
    have HL:=hid HX.out.lB
    generalize A.fv true=fv at *
    obtain⟨g,cap,hlv⟩:=zab (PFF.out _ (Below.refl _ w)).2.2
    subst hlv
    by_cases hp:(putF (s.files true) (zec 32 (zcc 32 rest)) (zcc 32 (zcc 32 rest))).1=0
    ·rw[Q4.out true e1 h1 h2 hp]
     rw[PE] at hp
     clear Q1 Q2 Q3 Q4 Q5 h1 h2 e1 PE g1
     go_enter Tryz.func12,Tryz.ntmps12
     go_wp2_with fail
     refine C1.out.mono ?_
     rintro e w1⟨rfl,b1⟩
     have B1:=hid b1
     clear C1 b1
     go_wp2_with fail
     refine(C2.out _).mono ?_
     rintro e w2⟨rfl,b2⟩
     have B2:=hid (zaa B1.out b2)
     clear C2 b2
     obtain⟨f1,f2,f3⟩:=PFF.out _ B2.out
     simp only[↓reduceIte] at f1 f2
     have PU1:=hid (PU.out _ B2.out)
     go_wp2_with fail
     refine PU1.out.mono ?_
     rintro e w4⟨r,rfl,t2,t3,b4⟩
     have hr:=t2 hp
     have BB:=hid (zaa B2.out b4)
     have HR:=hid hr
     obtain⟨ra,rc,rfl⟩:=zab hr
     obtain⟨f1,f2,f3⟩:=PFF.out _ BB.out
     simp only[↓reduceIte] at f1 f2
     have hnp:=World.block_lt_of_cell? _ _ f1
     clear t2 t3 b4 hr PU1 PU f3
     generalize zav (zal (s.files true) (zec 32 (zcc 32 rest)) (zcc 32 (zcc 32 rest)))=ft at *
     obtain⟨fc,fa⟩:=ft
     simp only at hp
     subst hp
     unfold rfv
     go_wp2_with fail
     go_ret
     exact⟨rfl,⟨_,(HP.out _ A (HX.out.below BB.out) _ _ _ HR.out (Nat.le_trans HL.out B2.out.size)).below (zfa _ _)⟩,((Chg.of_below BB.out _).set ⟨mb,0,none⟩ (.inl HX.out.lm.2) _).alloc _⟩
    ·rw[Q5.out true e1 h1 h2 hp]
     rw[PE] at hp
     rw[PE]
     clear Q1 Q2 Q3 Q4 Q5 h1 h2 e1 PE g1
     go_enter Tryz.func12,Tryz.ntmps12
     go_wp2_with fail
     refine C1.out.mono ?_
     rintro e w1⟨rfl,b1⟩
     have B1:=hid b1
     clear C1 b1
     go_wp2_with fail
     refine(C2.out _).mono ?_
     rintro e w2⟨rfl,b2⟩
     have B2:=hid (zaa B1.out b2)
     clear C2 b2
     obtain⟨f1,f2,f3⟩:=PFF.out _ B2.out
     simp only[↓reduceIte] at f1 f2
     have PU1:=hid (PU.out _ B2.out)
     go_wp2_with fail
     refine PU1.out.mono ?_
     rintro e w4⟨r,rfl,t2,t3,b4⟩
     have hr:=t3 hp
     have BB:=hid (zaa B2.out b4)
     subst hr
     clear t2 t3 b4 PU1 PU f3
     generalize zav (zal (s.files true) (zec 32 (zcc 32 rest)) (zcc 32 (zcc 32 rest)))=ft at *
     obtain⟨fc,fa⟩:=ft
     simp only at hp
     have hp1:((fc:Int)==0)=false:=by simpa using hp
     unfold rfv
     go_wp2_with fail
     go_ret
     exact⟨rfl,⟨A,(HX.out.below BB.out).below (zfa _ _)⟩,(Chg.of_below BB.out _).alloc _⟩
   ·have k1:=zbj (zec 32 rest) [102,114,111,109] g1
    by_cases g2:zec 32 rest=wTo
    ·have k2:=zc3 (zec 32 rest) [116,111] (by rw[g2];rfl)
     have e1:zbx (zec 32 rest)=some false:=by unfold zbx;rw[if_neg g1,if_pos g2]
     have PU:=hid (PU.out false)
     have PE:=PE.out false
     have PFF:=hid (PFF.out false)
     have HP:=hid (fun(w':World)(A:DmA)(h:DmAt w0 w' B mb A s)(l:List PF)(base:Nat)(r:Value)(hr:w'.ownsRow base 126 2 r l.length (zah l))(hb:B≤base)=>h.setTo hr hb)
     have HL:=hid HX.out.lB
     generalize A.fv false=fv at *
     obtain⟨g,cap,hlv⟩:=zab (PFF.out _ (Below.refl _ w)).2.2
     subst hlv
     by_cases hp:(putF (s.files false) (zec 32 (zcc 32 rest)) (zcc 32 (zcc 32 rest))).1=0
     ·rw[Q4.out false e1 h1 h2 hp]
      rw[PE] at hp
      clear Q1 Q2 Q3 Q4 Q5 h1 h2 e1 PE g1 g2
      go_enter Tryz.func12,Tryz.ntmps12
      go_wp2_with fail
      refine C1.out.mono ?_
      rintro e w1⟨rfl,b1⟩
      have B1:=hid b1
      clear C1 b1
      go_wp2_with fail
      refine(C2.out _).mono ?_
      rintro e w2⟨rfl,b2⟩
      have B2:=hid (zaa B1.out b2)
      clear C2 b2
      obtain⟨f1,f2,f3⟩:=PFF.out _ B2.out
      simp only[Bool.false_eq_true,↓reduceIte] at f1 f2
      have PU1:=hid (PU.out _ B2.out)
      go_wp2_with fail
      refine PU1.out.mono ?_
      rintro e w4⟨r,rfl,t2,t3,b4⟩
      have hr:=t2 hp
      have BB:=hid (zaa B2.out b4)
      have HR:=hid hr
      obtain⟨ra,rc,rfl⟩:=zab hr
      obtain⟨f1,f2,f3⟩:=PFF.out _ BB.out
      simp only[Bool.false_eq_true,↓reduceIte] at f1 f2
      have hnp:=World.block_lt_of_cell? _ _ f1
      clear t2 t3 b4 hr PU1 PU f3
      generalize zav (zal (s.files false) (zec 32 (zcc 32 rest)) (zcc 32 (zcc 32 rest)))=ft at *
      obtain⟨fc,fa⟩:=ft
      simp only at hp
      subst hp
      unfold rfv
      go_wp2_with fail
      go_ret
      exact⟨rfl,⟨_,(HP.out _ A (HX.out.below BB.out) _ _ _ HR.out (Nat.le_trans HL.out B2.out.size)).below (zfa _ _)⟩,((Chg.of_below BB.out _).set ⟨mb,1,none⟩ (.inl HX.out.lm.2) _).alloc _⟩
     ·rw[Q5.out false e1 h1 h2 hp]
      rw[PE] at hp
      rw[PE]
      clear Q1 Q2 Q3 Q4 Q5 h1 h2 e1 PE g1 g2
      go_enter Tryz.func12,Tryz.ntmps12
      go_wp2_with fail
      refine C1.out.mono ?_
      rintro e w1⟨rfl,b1⟩
      have B1:=hid b1
      clear C1 b1
      go_wp2_with fail
      refine(C2.out _).mono ?_
      rintro e w2⟨rfl,b2⟩
      have B2:=hid (zaa B1.out b2)
      clear C2 b2
      obtain⟨f1,f2,f3⟩:=PFF.out _ B2.out
      simp only[Bool.false_eq_true,↓reduceIte] at f1 f2
      have PU1:=hid (PU.out _ B2.out)
      go_wp2_with fail
      refine PU1.out.mono ?_
      rintro e w4⟨r,rfl,t2,t3,b4⟩
      have hr:=t3 hp
      have BB:=hid (zaa B2.out b4)
      subst hr
      clear t2 t3 b4 PU1 PU f3
      generalize zav (zal (s.files false) (zec 32 (zcc 32 rest)) (zcc 32 (zcc 32 rest)))=ft at *
      obtain⟨fc,fa⟩:=ft
      simp only at hp
      have hp1:((fc:Int)==0)=false:=by simpa using hp
      unfold rfv
      go_wp2_with fail
      go_ret
      exact⟨rfl,⟨A,(HX.out.below BB.out).below (zfa _ _)⟩,(Chg.of_below BB.out _).alloc _⟩
    ·have k2:=zbj (zec 32 rest) [116,111] g2
     have e1:zbx (zec 32 rest)=none:=by unfold zbx;rw[if_neg g1,if_neg g2]
     rw[Q3.out e1]
     clear Q1 Q2 Q3 Q4 Q5 PU PFF h1 h2 PE e1
     go_enter Tryz.func12,Tryz.ntmps12
     go_wp2_with fail
     refine C1.out.mono ?_
     rintro e w1⟨rfl,b1⟩
     have B1:=hid b1
     clear C1 b1
     go_wp2_with fail
     refine(C2.out _).mono ?_
     rintro e w2⟨rfl,b2⟩
     have B2:=hid (zaa B1.out b2)
     clear C2 b2
     go_wp2_with fail
     go_ret
     exact⟨rfl,⟨A,HX.out.below B2.out⟩,Chg.of_below B2.out _⟩
end
theorem ygz(l:List PF)(n:List UInt8):(zda l n).length≤l.length:=List.length_filter_le _ _
theorem ybf(l:List PF)(v:Value)(n:List UInt8)(w:World)(hl:SliceIs w v 2 (zah l))(hlen:l.length≤1000000):
  Calls Tryz.prog 24 #[v,.string (bs n)] w fun e w'=>∃r,e=.returned r∧w'.ownsRow w.heap.size 126 2 r (zda l n).length (zah (zda l n))∧Below w.heap.size w w':=by
 obtain⟨s,m,c,rfl,hn,h1,h2,hg⟩:=hl.get
 rw[zat] at hn
 obtain rfl:m=l.length:=by omega
 unfold maxLen at h2
 have HSL:=hid hl
 obtain⟨i0,hi,hz0,hz1,hz2⟩:=info_parts zj1
 clear hl hg
 go_enter Tryz.func24,Tryz.ntmps24
 go_wp2_with fail
 go_loopw [5,6] (fun o i wr=>∃k:Nat,i=.int .i64 k∧k≤l.length∧wr.ownsRow w.heap.size 126 2 o (zda (l.take k) n).length (zah (zda (l.take k) n))∧Below w.heap.size w wr) (fun _ i _=>l.length - (intOf i).toNat)
 case atStart=>exact⟨0,rfl,by omega,World.ownsRow_nil _ _ _ _,Below.refl _ _⟩
 case round=>
  obtain⟨k,rfl,hk,hown,bel⟩:=hrel
  have BW:=hid bel
  by_cases hlt:k<l.length
  ·have hltI:(k:Int)<l.length:=by omega
   obtain⟨s0',n0',c0',e1,_,_,_,g1⟩:=(HSL.out.below bel).get
   cases e1
   obtain⟨g2,g3⟩:=zb9 l k hlt
   obtain⟨ad,rfl,d0⟩:=g1 _ _ g2
   obtain⟨a',e',d1⟩:=g1 _ _ g3
   cases e'
   clear g1 g2 g3
   have TK:=hid (show zda (l.take (k+1)) n=zda (l.take k) n++zda [l[k]'hlt] n by unfold zda;rw[List.take_succ_eq_append_getElem hlt,List.filter_append])
   have x1:(0:Int)≤k:=by omega
   have x2:(k:Int).toNat=k:=by omega
   have KK:=hid (show k+1≤l.length from hlt)
   have hdl:(zda (l.take k) n).length≤k:=Nat.le_trans (ygz _ _) (by rw[List.length_take];omega)
   generalize l[k]'hlt=x at d0 d1 TK
   have d1:=zao d1
   have HO:=hid hown
   generalize zda (l.take k) n=D at *
   by_cases hx:x.n=n
   ·have hb:((bs x.n).toList==(bs n).toList)=true:=by rw[za4,za4];simpa using hx
    have Y:=hid (show zda (l.take (k+1)) n=D by rw[TK.out];unfold zda;simp[hx])
    clear TK hx
    go_wp2_with fail
    go_roundw
    case rel=>exact⟨k+1,by go_num,KK.out,by rw[Y.out];exact HO.out,BW.out⟩
    case measure=>simp[intOf];omega
   ·have hb:((bs x.n).toList==(bs n).toList)=false:=by rw[za4,za4];simpa using hx
    have Y:=hid (show zda (l.take (k+1)) n=D++[x] by rw[TK.out];unfold zda;simp[hx])
    have HN1:Hid (D.length+1≤maxLen):=by show _≤_;unfold maxLen;omega
    have HN2:Hid ((D.length+1) * 32≤140737488355328):=by show _≤_;omega
    obtain⟨va,vc,rfl⟩:=zab hown
    clear TK hx hown
    have HSZ:=hid bel.size
    go_wp2_with (at_builtin;refine zak rfl (.tmp 20) (.tmp 25) 33 rfl w.heap.size 126 i0 _ 2 32 Tryz.underlying33 hi hz0 hz1 hz2 rfl (by decide) _ D.length _ rfl (HO.out.alloc _) _ 1 [.string (bs x.n),.string (bs x.d)] rfl (zek (heap_alloc_new _ _)) rfl (fun u hu=>by simp at hu;rcases hu with rfl|rfl<;>rfl) HN1.out HN2.out (by have:=HSZ.out;simp;omega) ?_;intro v' w5 hown5 hgrow _;have HO5:=hid hown5;have HG5:=hid hgrow;clear hown5 hgrow)
    go_roundw
    case rel=>exact⟨k+1,by go_num,KK.out,by rw[Y.out,zbf,List.length_append];exact HO5.out,(BW.out.alloc BW.out.size _).grown HG5.out (by have:=BW.out.size;simp;omega) (fun j hj=>(HO.out.lt j hj).1)⟩
    case measure=>simp[intOf];omega
  ·have hltI:¬(k:Int)<l.length:=by omega
   rw[List.take_of_length_le (by omega)] at hown
   go_wp2_with fail
   go_ret
   exact⟨_,rfl,hown,BW.out⟩
theorem zbk{w:World}{B:Nat}{v:Value}{n:Nat}{ws:List (List UInt8)}(h:w.ownsRow B 9 1 v n (zbw ws))(hn:0<ws.length):∃ad c,v=.slice (some ad) n c∧n=ws.length∧B≤ad.block∧∀k x,ws[k]?=some x→w.cell? (ad.add k)=some (.string (bs x)):=by
 have hs:=SliceIs.ownedK h
 obtain⟨s0,m0,c0,e,hm0,hm1,hm2,g1⟩:=hs.get
 obtain⟨u,hu⟩:∃u,(zbw ws)[0]?=some u:=by
  cases ws with
  | nil=>cases hn
  | cons a l=>exact⟨_,rfl⟩
 obtain⟨ad,rfl,_⟩:=g1 0 _ hu
 obtain⟨a2,c2,e2⟩:=zab h
 have hb:=ze1 (j:=ad.block) h (by rw[e];rfl)
 have e3:=e.symm.trans e2
 simp only[Value.slice.injEq] at e3
 obtain⟨_,rfl,_⟩:=e3
 have hl:m0=ws.length:=by
  have:(zbw ws).length=ws.length:=by unfold zbw;exact List.length_map ..
  omega
 refine⟨ad,c0,e,hl,hb,fun k x hx=>?_⟩
 obtain⟨ad',e',d⟩:=g1 k (.string (bs x)) (by unfold zbw;rw[List.getElem?_map,hx];rfl)
 cases e'
 exact d
theorem ylv(a:Addr):a.add 2=⟨a.block,a.off+2,none⟩:=rfl
theorem zzg{a:List UInt8}(h:zbx a=some true):a=zpu:=by
 unfold zbx at h
 by_cases e:a=zpu
 ·exact e
 ·rw[if_neg e] at h
  split at h<;>simp at h
theorem yin{a:List UInt8}(h:zbx a=some false):a≠zpu:=by
 intro e
 unfold zbx at h
 rw[if_pos e] at h
 simp at h
section
variable{w0 w w':World}{B mb:Nat}{A:DmA}{s:SP}
theorem yi6(d:Cmd)(ws:List (List UInt8))(n:Nat)(v:Value)(hv:w.ownsRow B 9 1 v n (zbw (d.word::ws)))(ht:d.told=false):
  Calls Tryz.prog 14 #[.pointer (some ⟨mb,0,none⟩),v] w fun e w'=>e=.returned (.tuple #[.string ⟨#[]⟩,.int .i64 (-1)])∧w=w':=by
 obtain⟨ad,c,rfl,hn,hb,g⟩:=zbk hv (by simp)
 have d0:=g 0 _ rfl
 rw[zdy] at d0
 have hn0:0<n:=by rw[hn];simp
 have hn1:(0:Int)<n:=by omega
 have K:∀x:Cmd,x.told=true→((bs d.word).toList==x.word)=false:=fun x hx=>by
  rw[zg3,zwp]
  exact decide_eq_false (fun e=>by cases e;rw[ht] at hx;cases hx)
 have k0:=K .drop rfl
 have k1:=K .list rfl
 have k2:=K .plan rfl
 have k3:=K .open rfl
 have k4:=K .far rfl
 have k5:=K .again rfl
 clear hv g hn hb K
 generalize bs d.word=dw at *
 simp only[Cmd.word] at k0 k1 k2 k3 k4 k5
 go_enter Tryz.func14,Tryz.ntmps14
 go_wp2_with fail
 go_returns
 exact⟨rfl,rfl⟩
theorem zz1(a nm:List UInt8)(n:Nat)(v:Value)(h:DmAt w0 w B mb A s)(hI:SInv s)(hv:w.ownsRow B 9 1 v n (zbw [[100,114,111,112],a,nm])):
  Calls Tryz.prog 14 #[.pointer (some ⟨mb,0,none⟩),v] w (DAns w0 w B mb (s.drop a nm)):=by
 obtain⟨ad,c,rfl,rfl,hb,g⟩:=zbk hv (by simp)
 have d0:=g 0 _ rfl
 have d1:=g 1 _ rfl
 have d2:=g 2 _ rfl
 rw[zdy] at d0
 rw[zlc] at d1
 rw[ylv] at d2
 have HX:=hid h
 have FI:=hid (zoo a h)
 have GE:=hid (fun(b:Bool)=>zhq (s.files b) (A.fv b) nm w (SliceIs.ownedK (h.atF b).2.2))
 have DR:=hid (fun(b:Bool)(w':World)(bb:Below w.heap.size w w')=>ybf (s.files b) (A.fv b) nm w' (SliceIs.ownedK ((h.below bb).atF b).2.2) (by have:=(hI.files b).wf.few;omega))
 have DD:=hid (fun(w':World)(bb:Below w.heap.size w w')=>And.intro ((bb.cell (World.block_lt_of_cell? w _ d1)).trans d1) ((bb.cell (World.block_lt_of_cell? w _ d2)).trans d2))
 have CS:=hid (fun(b:Bool)(w':World)(bb:Below w.heap.size w w')=>(h.below bb).atF b)
 have HF:=hid (fun(w':World)(A:DmA)(h:DmAt w0 w' B mb A s)(l:List PF)(base:Nat)(r:Value)(hr:w'.ownsRow base 126 2 r l.length (zah l))(hb:B≤base)=>h.setFr hr hb)
 have HT:=hid (fun(w':World)(A:DmA)(h:DmAt w0 w' B mb A s)(l:List PF)(base:Nat)(r:Value)(hr:w'.ownsRow base 126 2 r l.length (zah l))(hb:B≤base)=>h.setTo hr hb)
 obtain⟨fva,fvc,hfv⟩:=zab (h.atF true).2.2
 obtain⟨tva,tvc,htv⟩:=zab (h.atF false).2.2
 clear hv g hb h hI
 have k0:=zc3 [100,114,111,112] [100,114,111,112] (by decide)
 cases hs:zbx a with
 | none=>
  have hq:s.drop a nm=(s,[],1):=by unfold SP.drop;rw[hs]
  rw[hq]
  rw[hs] at FI
  clear hs hq GE DR CS HF HT
  rw[Option.getD_none,htv] at FI
  go_enter Tryz.func14,Tryz.ntmps14
  go_wp2_with fail
  refine FI.out.mono ?_
  rintro e w1⟨rfl,rfl⟩
  simp only[Option.isSome_none]
  clear FI
  go_wp2_with fail
  go_returns
  exact DAns.same HX.out (Below.refl _ _) (by rw[bs_nil];rfl)
 | some b=>
  rw[hs] at FI
  rw[Option.getD_some] at FI
  by_cases hg:(zaq (s.files b) nm).isSome=true
  ·have hq:s.drop a nm=(s.setF b (zda (s.files b) nm),zg2,0):=by unfold SP.drop;rw[hs];simp only[];rw[if_pos hg]
   rw[hq]
   have GE1:=hid (GE.out b)
   rw[hg] at GE1
   have DR1:=hid (DR.out b)
   have CS1:=hid (CS.out b)
   cases b with
   | true=>
    have FV:A.fv true=_:=hfv
    rw[FV] at FI GE1 DR1 CS1
    have HK:=hid (show a=zpu from zzg hs)
    clear FV hfv htv GE DR CS
    have e1:((bs a).toList==[102,114,111,109])=true:=zc3 a _ (by rw[HK.out];rfl)
    clear hs hq hg
    go_enter Tryz.func14,Tryz.ntmps14
    go_wp2_with fail
    refine FI.out.mono ?_
    rintro e w1⟨rfl,rfl⟩
    simp only[Option.isSome_some]
    clear FI
    go_wp2_with fail
    refine GE1.out.mono ?_
    rintro e w2⟨rfl,b2⟩
    have B2:=hid b2
    obtain⟨d1',d2'⟩:=DD.out _ b2
    have DR2:=hid (DR1.out _ b2)
    clear GE1 b2 DR1
    go_wp2_with fail
    refine DR2.out.mono ?_
    rintro e w3⟨r,rfl,hr,b3⟩
    have B3:=hid (zaa B2.out b3)
    have HR:=hid hr
    obtain⟨f1,f2,_⟩:=CS1.out _ B3.out
    simp only[↓reduceIte] at f1 f2
    obtain⟨ra,rc,rfl⟩:=zab hr
    clear hr b3 DR2 CS1
    go_wp2_with fail
    go_returns
    exact⟨by unfold zg2 bs;rfl,⟨_,HF.out _ A (HX.out.below B3.out) _ _ _ HR.out (Nat.le_trans HX.out.lB B2.out.size)⟩,((Chg.of_below B3.out _).set ⟨mb,0,none⟩ (.inl HX.out.lm.2) _)⟩
   | false=>
    have FV:A.fv false=_:=htv
    rw[FV] at FI GE1 DR1 CS1
    have HK:=hid (show a≠zpu from yin hs)
    clear FV hfv htv GE DR CS
    have e1:((bs a).toList==[102,114,111,109])=false:=zbj a _ HK.out
    clear hs hq hg
    go_enter Tryz.func14,Tryz.ntmps14
    go_wp2_with fail
    refine FI.out.mono ?_
    rintro e w1⟨rfl,rfl⟩
    simp only[Option.isSome_some]
    clear FI
    go_wp2_with fail
    refine GE1.out.mono ?_
    rintro e w2⟨rfl,b2⟩
    have B2:=hid b2
    obtain⟨d1',d2'⟩:=DD.out _ b2
    have DR2:=hid (DR1.out _ b2)
    clear GE1 b2 DR1
    go_wp2_with fail
    refine DR2.out.mono ?_
    rintro e w3⟨r,rfl,hr,b3⟩
    have B3:=hid (zaa B2.out b3)
    have HR:=hid hr
    obtain⟨f1,f2,_⟩:=CS1.out _ B3.out
    simp only[Bool.false_eq_true,↓reduceIte] at f1 f2
    obtain⟨ra,rc,rfl⟩:=zab hr
    clear hr b3 DR2 CS1
    go_wp2_with fail
    go_returns
    exact⟨by unfold zg2 bs;rfl,⟨_,HT.out _ A (HX.out.below B3.out) _ _ _ HR.out (Nat.le_trans HX.out.lB B2.out.size)⟩,((Chg.of_below B3.out _).set ⟨mb,1,none⟩ (.inl HX.out.lm.2) _)⟩
  ·have hq:s.drop a nm=(s,[],6):=by unfold SP.drop;rw[hs];simp only[];rw[if_neg hg]
   rw[hq]
   have GE1:=hid (GE.out b)
   rw[Bool.not_eq_true] at hg
   rw[hg] at GE1
   have FV:∃a n c,A.fv b=.slice a n c:=by
    cases b
    ·exact⟨_,_,_,htv⟩
    ·exact⟨_,_,_,hfv⟩
   obtain⟨xa,xn,xc,FV⟩:=FV
   rw[FV] at FI GE1
   clear FV hfv htv GE DR CS hs hq hg HF HT
   go_enter Tryz.func14,Tryz.ntmps14
   go_wp2_with fail
   refine FI.out.mono ?_
   rintro e w1⟨rfl,rfl⟩
   simp only[Option.isSome_some]
   clear FI
   go_wp2_with fail
   refine GE1.out.mono ?_
   rintro e w2⟨rfl,b2⟩
   have B2:=hid b2
   clear GE1 b2
   go_wp2_with fail
   go_returns
   exact DAns.same HX.out B2.out (by rw[bs_nil];rfl)
end
end Go.Proofs.YtakhkcaihhpehaaGreatDoor
