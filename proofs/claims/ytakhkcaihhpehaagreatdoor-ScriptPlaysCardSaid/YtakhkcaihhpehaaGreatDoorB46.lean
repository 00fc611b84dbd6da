/- Texts of one proof, one behind the other: DocPlan, DocList, DocNums. -/
import Derived.Test.YtakhkcaihhpehaaGreatDoorB40
import Derived.Test.YtakhkcaihhpehaaGreatDoorB43
import Derived.Test.YtakhkcaihhpehaaGreatDoorB45
import Derived.Test.YtakhkcaihhpehaaGreatDoorB35
import Derived.Test.YtakhkcaihhpehaaGreatDoorB41
import Derived.Test.YtakhkcaihhpehaaGreatDoorB37
namespace Go.Proofs.YtakhkcaihhpehaaGreatDoor
open Go.RowKit
open Lib (hid)
set_option linter.unusedVariables false
set_option maxRecDepth 100000
set_option maxHeartbeats 51200000
theorem yjw(l:List PF):(l.map PF.ml).map PM.pl=l.map PF.line:=by rw[List.map_map];rfl
theorem yq2(l:List PF):∀x∈l.map PF.ml,x.ok32:=by
 intro x hx
 obtain⟨f,_,rfl⟩:=List.mem_map.1 hx
 have h:=zdv f.d
 have e:f.ml.S=((za5 f.d:Nat):Int):=rfl
 unfold PM.ok32
 rw[e]
 omega
theorem ypj{w:World}{g:Nat}{x y:Value}{t:TypeId}(h:w.heap[g]?=some (.cells #[x,y] t (0,0))):w.frozen? ⟨g,0,none⟩=false∧w.frozen? ⟨g,1,none⟩=false∧w.cell? ⟨g,0,none⟩=some x∧w.cell? ⟨g,1,none⟩=some y:=by
 refine⟨?_,?_,?_,?_⟩<;>simp[World.cell?,World.frozen?,h]
theorem zwf{n g base m k:Nat}{w1 v3:World}{x y r:Value}{t e:TypeId}{xs:List Value}(c:Below n w1 v3)(hg:n≤g)(hy:v3.heap[g]?=some (.cells #[x,y] t (0,0)))(hr:v3.ownsRow base e k r m xs)(hne:t≠e)(u v:Value):
  Below n w1 ((v3.setCell ⟨g,0,none⟩ u).setCell ⟨g,1,none⟩ v)∧((v3.setCell ⟨g,0,none⟩ u).setCell ⟨g,1,none⟩ v).ownsRow base e k r m xs∧((v3.setCell ⟨g,0,none⟩ u).setCell ⟨g,1,none⟩ v).cell? ⟨g,0,none⟩=some u:=by
 have hc:Chg v3 ((v3.setCell ⟨g,0,none⟩ u).setCell ⟨g,1,none⟩ v) (fun x=>x=g):=((Chg.refl v3 (fun x=>x=g)).set ⟨g,0,none⟩ (.inl rfl) u).set ⟨g,1,none⟩ (.inl rfl) v
 exact⟨(c.setCell (p:=⟨g,0,none⟩) hg u).setCell (p:=⟨g,1,none⟩) hg v,zan hr hc (fun z hz e=>zcj hr hy hne (by rw[hz,e])),(zut hy u v).1⟩
theorem ypi{base m k:Nat}{w1 v3:World}{r:Value}{e:TypeId}{xs:List Value}(c:Below w1.heap.size w1 v3)(hr:v3.ownsRow base e k r m xs)(u v:Value)(t:TypeId):
  Below w1.heap.size w1 (v3.alloc (.cells #[u,v] t))∧(v3.alloc (.cells #[u,v] t)).ownsRow base e k r m xs∧(v3.alloc (.cells #[u,v] t)).cell? ⟨v3.heap.size,0,none⟩=some u:=
 ⟨c.alloc c.size _,hr.alloc _,by simp⟩
section
variable{w0 w w':World}{B mb:Nat}{A:DmA}{s:SP}
attribute [local irreducible] SP.stepT zcu zfo zb3
theorem zzy(n:Nat)(v:Value)(h:DmAt w0 w B mb A s)(hI:SInv s)(hv:w.ownsRow B 9 1 v n (zbw [[112,108,97,110]])):
  Calls Tryz.prog 14 #[.pointer (some ⟨mb,0,none⟩),v] w (DAns w0 w B mb s.plan):=by
 obtain⟨ad,c,rfl,rfl,hb,g⟩:=zbk hv (by simp)
 have d0:=g 0 _ rfl
 rw[zdy] at d0
 have HX:=hid h
 have hWf:=hI.fr.wf
 have hWt:=hI.tt.wf
 have FEWf:=hWf.few
 have FEWt:=hWt.few
 have BD:=hid (Below.drew (Below.refl w.heap.size w))
 have L1:=hid (fun(w':World)(b:Below w.drew.heap.size w.drew w')=>zku s.fr A.vf w' (SliceIs.ownedK (h.below (zaa BD.out b)).fr) (fun x hx=>by have:=hI.fr.len x hx;omega) (by omega))
 have L2:=hid (fun(w':World)(b:Below w.drew.heap.size w.drew w')=>zku s.tt A.vt w' (SliceIs.ownedK (h.below (zaa BD.out b)).tt) (fun x hx=>by have:=hI.tt.len x hx;omega) (by omega))
 have LP:=hid (fun (w':World) v1 v2 h1 h2=>yed (s.fr.map PF.ml) (s.tt.map PF.ml) v1 v2 w' h1 h2 (yq2 _) (yq2 _) (by rw[yjw];exact hWf.lines) (by rw[yjw];exact hWt.lines))
 rw[yjw,yjw,show rfv (0,-1)=.agg #[.int .i64 0,.int .i64 (-1)] from by simp only[zdz];rfl] at LP
 have PL:=zh6 (s.fr.map PF.line) (s.tt.map PF.line)
 have PS:=hid (zmr hWf hWt)
 have PG:=hid (zsh hWf hWt)
 have LN:(zb3 (s.fr.map PF.line) (s.tt.map PF.line)).length≤40:=by
  rw[List.length_map,List.length_map] at PL
  omega
 have HQ:Hid (s.plan=(s,zfo ((zb3 (s.fr.map PF.line) (s.tt.map PF.line)).map SP.stepT),0)):=hid rfl
 rw[HQ.out]
 have CS:=hid (fun(w':World)(b:Below w.heap.size w w')=>(show w'.cell? ⟨mb,0,none⟩=some A.vf∧w'.cell? ⟨mb,1,none⟩=some A.vt from⟨(h.below b).cs.1.1,(h.below b).cs.1.2.1⟩))
 obtain⟨i0,hi,hz0,hz1,hz2⟩:=info_parts zgw
 obtain⟨ga,gc,ha⟩:=zab h.fr
 obtain⟨ta,tc,ht⟩:=zab h.tt
 rw[ha] at L1 CS
 rw[ht] at L2 CS
 generalize zb3 (s.fr.map PF.line) (s.tt.map PF.line)=L at *
 generalize s.fr.length=fl at *
 generalize s.tt.length=tl at *
 clear hv g hb h hI hWf hWt HQ PL ha ht
 have k0:=zbj [112,108,97,110] [100,114,111,112] (by decide)
 have k1:=zbj [112,108,97,110] [108,105,115,116] (by decide)
 have k2:=zc3 [112,108,97,110] [112,108,97,110] (by decide)
 have S1:=And.intro (CS.out _ BD.out) (Below.refl w.drew.heap.size w.drew)
 have KS:=hid (fun(W:World)(bb:Below w.drew.heap.size w.drew W)=>And.intro (CS.out _ (zaa BD.out bb)) bb)
 have AL:=hid (fun(X:World)(o:Obj)(b:Below w.drew.heap.size w.drew X)=>b.alloc b.size o)
 have SE:=hid (fun(X:World)(b:Below w.drew.heap.size w.drew X)(g:Nat)(hg:w.drew.heap.size≤g)(u v:Value)=>(b.setCell (p:=⟨g,0,none⟩) hg u).setCell (p:=⟨g,1,none⟩) hg v)
 go_enter Tryz.func14,Tryz.ntmps14
 go_wp2_with fail
 go_region_held3 (fun X=>(X.cell? ⟨mb,0,none⟩=some (.slice ga fl gc)∧X.cell? ⟨mb,1,none⟩=some (.slice ta tl tc))∧Below w.drew.heap.size w.drew X) (first|exact S1|assumption|exact KS.out _ (by assumption)|exact KS.out _ (AL.out _ _ (Below.refl _ _))|exact KS.out _ (AL.out _ _ (by assumption))|exact KS.out _ (SE.out _ (by assumption) _ (by first|exact Nat.le_refl _|exact Below.size (by assumption)) _ _))
  (first
  | (go_at_call 25;(with_reducible refine Calls.mono (L1.out _ ?_) ?_);(first|exact Below.refl _ _|exact AL.out _ _ (Below.refl _ _));rintro e v1⟨r1,rfl,hr1,b1⟩;have c1:=(show Below w.drew.heap.size w.drew v1 from by first|exact b1|exact zaa (AL.out _ _ (Below.refl _ _)) b1);(first|(with_reducible have hy:=(b1.block _ (lt_of_block (heap_alloc_new _ _))).trans (heap_alloc_new _ _))|skip);obtain⟨r1a,r1c,rfl⟩:=zab hr1)
  | (go_at_call 25;(with_reducible refine Calls.mono (L2.out _ ?_) ?_);(first|exact c1|exact AL.out _ _ c1);rintro e v2⟨r2,rfl,hr2,b2⟩;have c2:=(show Below w.drew.heap.size w.drew v2 from by first|exact zaa c1 b2|exact zaa (AL.out _ _ c1) b2);(first|(with_reducible have hy:=(b2.block _ (lt_of_block (heap_alloc_new _ _))).trans (heap_alloc_new _ _))|(with_reducible have hy:=(b2.block _ (lt_of_block hy)).trans hy)|skip);have hr1:=(show v2.ownsRow _ 75 3 _ fl (zc2 (s.fr.map PF.ml)) from by first|exact zad hr1 b2|exact zad (hr1.alloc _) b2);obtain⟨r2a,r2c,rfl⟩:=zab hr2)
  | (go_at_call 28;(with_reducible refine Calls.mono (LP.out _ _ _ ?_ ?_) ?_);(first|exact SliceIs.ownedK hr1|exact SliceIs.ownedK (hr1.alloc _));(first|exact SliceIs.ownedK hr2|exact SliceIs.ownedK (hr2.alloc _));rintro e v3⟨r3,rfl,hr3,b3⟩;have c3:=(show Below w.drew.heap.size w.drew v3 from by first|exact zaa c2 b3|exact zaa (AL.out _ _ c2) b3);(first|(with_reducible have hy:=(b3.block _ (lt_of_block (heap_alloc_new _ _))).trans (heap_alloc_new _ _))|(with_reducible have hy:=(b3.block _ (lt_of_block hy)).trans hy)|skip);(first|(have hf:=ypj hy;obtain⟨f0,f1,e0,e1⟩:=hf)|skip);obtain⟨r3a,r3c,rfl⟩:=zab hr3))
 all_goals
  first
  | (have F:=hid (zwf (g:=v2.heap.size) c3 c2.size hy hr3 (by decide) (.int .i64 0) (.int .i64 (-1)));generalize (v3.setCell ⟨v2.heap.size,0,none⟩ (.int .i64 0)).setCell ⟨v2.heap.size,1,none⟩ (.int .i64 (-1))=w4 at F ⊢;generalize v2.heap.size=g at F ⊢)
  | (have F:=hid (zwf (g:=v1.heap.size) c3 c1.size hy hr3 (by decide) (.int .i64 0) (.int .i64 (-1)));generalize (v3.setCell ⟨v1.heap.size,0,none⟩ (.int .i64 0)).setCell ⟨v1.heap.size,1,none⟩ (.int .i64 (-1))=w4 at F ⊢;generalize v1.heap.size=g at F ⊢)
  | (have F:=hid (zwf (g:=w.heap.size) c3 (Nat.le_refl _) hy hr3 (by decide) (.int .i64 0) (.int .i64 (-1)));generalize (v3.setCell ⟨w.heap.size,0,none⟩ (.int .i64 0)).setCell ⟨w.heap.size,1,none⟩ (.int .i64 (-1))=w4 at F ⊢;generalize w.heap.size=g at F ⊢)
  | (have F:=hid (ypi c3 hr3 (.int .i64 0) (.int .i64 (-1)) 64);generalize v3.alloc (.cells #[.int .i64 0,.int .i64 (-1)] 64)=w4 at F ⊢;generalize v3.heap.size=g at F ⊢)
  obtain⟨F1,F2,F3⟩:=F.out
  have B4:=hid (zaa BD.out F1)
  have HR3:=hid F2
  have HC:=hid F3
  clear F F1 F2 F3 c1 c2 c3 hr1 hr2 hr3 S1
  try clear f0 f1 e0 e1
  try clear hy
  try clear b1 b2 b3
  go_wp2_with fail
  go_loopw [6,15] (fun o i wr=>∃j:Nat,i=.int .i64 j∧j≤L.length∧wr.ownsRow w4.heap.size 9 1 o j (zbw ((L.take j).map SP.stepT))∧Below w4.heap.size w4 wr) (fun _ i _=>L.length - (intOf i).toNat)
  case atStart=>exact⟨0,rfl,by omega,World.ownsRow_nil _ _ _ _,Below.refl _ _⟩
  case round=>
   obtain⟨j,rfl,hj,hown,bel⟩:=hrel
   by_cases hlt:j<L.length
   ·have hltI:(j:Int)<L.length:=by omega
    obtain⟨s0',n0',c0',e1,_,_,_,g1⟩:=(SliceIs.ownedK HR3.out).get
    cases e1
    obtain⟨g2,g3⟩:=zf5 L j hlt
    obtain⟨ad,rfl,d0⟩:=g1 _ _ g2
    obtain⟨a',e',d1⟩:=g1 _ _ g3
    cases e'
    clear g1 g2 g3
    have NX:=hid (show zbw ((L.take (j+1)).map SP.stepT)=zbw ((L.take j).map SP.stepT)++[.string (bs (SP.stepT L[j]))] by
     rw[List.take_succ_eq_append_getElem hlt,List.map_append];exact zcz _ _)
    obtain⟨p1,p2⟩:=PS.out L[j] (List.getElem_mem _)
    have KK:=hid (show j+1≤L.length by omega)
    have x1:(0:Int)≤j:=by omega
    have x2:(j:Int).toNat=j:=by omega
    have ES:=hid (show SP.stepT L[j]=L[j].k++[58]++L[j].n by unfold SP.stepT;simp)
    generalize SP.stepT L[j]=T at *
    generalize L[j]=x at d0 d1 p1 p2 ES
    have d0:w4.cell? (ad.add (j * 2))=some (.string (bs x.k)):=d0
    have d1:w4.cell? ⟨(ad.add (j * 2)).block,(ad.add (j * 2)).off+1,none⟩=some (.string (bs x.n)):=zao d1
    have ADL:=hid (World.block_lt_of_cell? w4 _ d0)
    have d0:=(bel.cell (World.block_lt_of_cell? w4 _ d0)).trans d0
    have d1:=(bel.cell (World.block_lt_of_cell? w4 _ d1)).trans d1
    obtain⟨Y1,hY1⟩:∃Y,Y=x.k++[58]:=⟨_,rfl⟩
    have hA1:bs x.k++⟨#[58]⟩=bs Y1:=by rw[ybr,hY1];exact zc6 x.k [58]
    have hA2:bs Y1++bs x.n=bs T:=by rw[ES.out,hY1];exact zc6 _ _
    have hl1:Y1.length≤5:=by rw[hY1,List.length_append];simp;omega
    have HN1:Hid (j+1≤maxLen):=by show _≤_;unfold maxLen;omega
    have HN2:Hid ((j+1) * 16≤140737488355328):=by show _≤_;omega
    have hc1:¬9223372036854775807<x.k.length+1:=by omega
    have hc2:¬9223372036854775807<Y1.length+x.n.length:=by omega
    have BW:=hid bel
    have HO:=hid hown
    have HSZ:=hid bel.size
    obtain⟨va,vc,rfl⟩:=zab hown
    have S0:=And.intro d0 d1
    have DD:=hid (fun(X:World)(b:Below wr.heap.size wr X)=>(show X.cell? (ad.add (j * 2))=some (.string (bs x.k))∧X.cell? ⟨(ad.add (j * 2)).block,(ad.add (j * 2)).off+1,none⟩=some (.string (bs x.n)) from⟨(b.cell (World.block_lt_of_cell? wr _ d0)).trans d0,(b.cell (World.block_lt_of_cell? wr _ d1)).trans d1⟩))
    have OB:Hid (∀x,(Value.slice va j vc).ownBlock=some x→w4.heap.size≤x∧x<wr.heap.size):=hid fun x hx=>HO.out.lt x hx
    have BG:=hid (fun(X:World)(o:Obj)(w5:World)(b:Below wr.heap.size wr X)(g:(X.alloc o).grownBy w5 (Value.slice va j vc).ownBlock)=>show Below w4.heap.size w4 w5 from((zaa BW.out b).alloc (zaa BW.out b).size o).grown g (by have:=(zaa BW.out b).size;simp;omega) (fun k hk=>(OB.out k hk).1))
    have KG:=hid (fun(X:World)(o:Obj)(w5:World)(b:Below wr.heap.size wr X)(g:(X.alloc o).grownBy w5 (Value.slice va j vc).ownBlock)=>(show w5.cell? (ad.add (j * 2))=some (.string (bs x.k))∧w5.cell? ⟨(ad.add (j * 2)).block,(ad.add (j * 2)).off+1,none⟩=some (.string (bs x.n)) from by
     have hb0:=World.block_lt_of_cell? wr _ d0
     have hb:w5.heap[(ad.add (j * 2)).block]?=wr.heap[(ad.add (j * 2)).block]?:=(g.block _ (by have:=b.size;simp;omega) (fun e=>by have:=(OB.out _ e.symm).1;have:=ADL.out;omega)).trans ((Below.heap_alloc X o _ (by have:=b.size;omega)).trans (b.block _ hb0))
     refine⟨?_,?_⟩
     ·rw[←d0];unfold World.cell?;rw[hb]
     ·rw[←d1];unfold World.cell?;rw[hb]))
    clear hown bel hY1 ES d0 d1
    go_wp2_with fail
    go_region_held3 (fun X=>X.cell? (ad.add (j * 2))=some (.string (bs x.k))∧X.cell? ⟨(ad.add (j * 2)).block,(ad.add (j * 2)).off+1,none⟩=some (.string (bs x.n))) (first|exact S0|exact DD.out _ (Below.drew (Below.refl _ _))|exact DD.out _ (by assumption)|exact DD.out _ (zag _ _)|exact DD.out _ ((Below.drew (Below.refl _ _)).alloc (Nat.le_refl _) _)|assumption)
     (first
     | (refine za7 rfl (.tmp 140) (.tmp 153) 22 rfl w4.heap.size 9 i0 _ 1 16 Tryz.underlying22 hi hz0 hz1 hz2 rfl (by decide) (.slice va j vc) j _ rfl (HO.out.drew.alloc _) ⟨_,0,none⟩ 1 1 [.string (bs T)] rfl rfl (zc4 (by simp)) (zbs rfl) HN1.out HN2.out (by have:=HSZ.out;simp;omega) ?_;intro v' w5 hown5 hgrow _;have HO5:=hid hown5;have HG5:=hid (BG.out _ _ _ (Below.drew (Below.refl _ _)) hgrow);have S5:=KG.out _ _ _ (Below.drew (Below.refl _ _)) hgrow)
     | (refine za7 rfl (.tmp 140) (.tmp 153) 22 rfl w4.heap.size 9 i0 _ 1 16 Tryz.underlying22 hi hz0 hz1 hz2 rfl (by decide) (.slice va j vc) j _ rfl ((HO.out.alloc _).drew) ⟨_,0,none⟩ 1 1 [.string (bs T)] rfl rfl (zc4 (by simp)) (zbs rfl) HN1.out HN2.out (by have:=HSZ.out;simp;omega) ?_;intro v' w5 hown5 hgrow _;have HO5:=hid hown5;have HG5:=hid (BG.out _ _ _ (Below.refl _ _) (zbu hgrow));have S5:=KG.out _ _ _ (Below.refl _ _) (zbu hgrow))
     | (refine za7 rfl (.tmp 140) (.tmp 153) 22 rfl w4.heap.size 9 i0 _ 1 16 Tryz.underlying22 hi hz0 hz1 hz2 rfl (by decide) (.slice va j vc) j _ rfl (HO.out.alloc _) ⟨_,0,none⟩ 1 1 [.string (bs T)] rfl rfl (zc4 (by simp)) (zbs rfl) HN1.out HN2.out (by have:=HSZ.out;simp;omega) ?_;intro v' w5 hown5 hgrow _;have HO5:=hid hown5;have HG5:=hid (BG.out _ _ _ (Below.refl _ _) hgrow);have S5:=KG.out _ _ _ (Below.refl _ _) hgrow))
    go_wp2_with fail
    go_roundw
    case rel=>exact⟨j+1,by go_num,KK.out,by rw[NX.out];exact HO5.out,HG5.out⟩
    case measure=>have:=KK.out;simp[intOf];omega
   ·have hltI:¬(j:Int)<L.length:=by omega
    obtain rfl:j=L.length:=by omega
    rw[List.take_length] at hown
    have HJ:=hid (fun(X:World)(b:Below wr.heap.size wr X)=>zmo (L.map SP.stepT) _ X (SliceIs.ownedK (zad hown b)) (by have:=PG.out;omega) (by rw[List.length_map];omega))
    obtain⟨va,vc,rfl⟩:=zab hown
    have BW:=hid (zaa B4.out bel)
    have S0:=(bel.cell (World.block_lt_of_cell? w4 _ HC.out)).trans HC.out
    have S1:=((Below.drew (Below.refl wr.heap.size wr)).cell (World.block_lt_of_cell? wr _ S0)).trans S0
    clear hown bel
    go_wp2_with fail
    go_region_held3 (fun X=>X.cell? ⟨g,0,none⟩=some (.int .i64 0)) (first|exact S0|exact S1) ((go_at_call 27;(with_reducible refine Calls.mono (HJ.out _ ?_) ?_);(exact Below.drew (Below.refl _ _));rintro e w5⟨rfl,rfl⟩))
    go_wp2_with fail
    go_returns
    exact DAns.same HX.out (Below.drew BW.out) rfl
end
section
variable{w0 w w':World}{B mb:Nat}{A:DmA}{s:SP}
attribute [local irreducible] SP.lineT zcu zfo
theorem zz0(a:List UInt8)(n:Nat)(v:Value)(h:DmAt w0 w B mb A s)(hI:SInv s)(hv:w.ownsRow B 9 1 v n (zbw [[108,105,115,116],a])):
  Calls Tryz.prog 14 #[.pointer (some ⟨mb,0,none⟩),v] w (DAns w0 w B mb (s.list a)):=by
 obtain⟨ad,c,rfl,rfl,hb,g⟩:=zbk hv (by simp)
 have d0:=g 0 _ rfl
 have d1:=g 1 _ rfl
 rw[zdy] at d0
 rw[zlc] at d1
 have HX:=hid h
 have FI:=hid (zoo a h)
 have k0:=zbj [108,105,115,116] [100,114,111,112] (by decide)
 have k1:=zc3 [108,105,115,116] [108,105,115,116] (by decide)
 cases hs:zbx a with
 | none=>
  have hq:s.list a=(s,[],1):=by unfold SP.list;rw[hs]
  rw[hq]
  rw[hs] at FI
  obtain⟨tva,tvc,htv⟩:=zab (h.atF false).2.2
  rw[Option.getD_none,htv] at FI
  clear hs hq hv g hb h hI htv
  go_enter Tryz.func14,Tryz.ntmps14
  go_wp2_with fail
  refine FI.out.mono ?_
  rintro e w1⟨rfl,rfl⟩
  simp only[Option.isSome_none]
  clear FI
  go_wp2_with fail
  go_returns
  exact DAns.same HX.out (Below.refl _ _) (by rw[bs_nil];rfl)
 | some b=>
  have hq:s.list a=(s,zfo ((s.files b).map fun f=>SP.lineT f.line),0):=by unfold SP.list;rw[hs]
  rw[hq]
  rw[hs,Option.getD_some] at FI
  have F3:=(h.atF b).2.2
  have hW:=(hI.files b).wf
  have HFEW:=hW.few
  have LS:=hid (zku (s.files b) (A.fv b) w (SliceIs.ownedK F3) (fun x hx=>by have:=(hI.files b).len x hx;omega) (by omega))
  have HEA:=hid hW.each
  have GL:=hid (fun k=>zo1 hW k)
  obtain⟨g0,cap,hlv⟩:=zab F3
  obtain⟨i0,hi,hz0,hz1,hz2⟩:=info_parts zgw
  generalize A.fv b=fv at *
  subst hlv
  generalize s.files b=L at *
  clear hs hq hv g hb h hI F3 hW
  go_enter Tryz.func14,Tryz.ntmps14
  go_wp2_with fail
  refine FI.out.mono ?_
  rintro e w1⟨rfl,rfl⟩
  simp only[Option.isSome_some]
  clear FI
  go_wp2_with fail
  refine LS.out.mono ?_
  rintro e w2⟨r,rfl,hr,b2⟩
  have B2:=hid b2
  have HR:=hid hr
  obtain⟨ra,rc,rfl⟩:=zab hr
  clear LS b2 hr d0 d1
  go_wp2_with fail
  go_loopw [6,12] (fun o i wr=>∃j:Nat,i=.int .i64 j∧j≤L.length∧wr.ownsRow w2.heap.size 9 1 o j (zbw ((L.take j).map fun f=>SP.lineT f.line))∧Below w2.heap.size w2 wr) (fun _ i _=>L.length - (intOf i).toNat)
  case atStart=>exact⟨0,rfl,by omega,World.ownsRow_nil _ _ _ _,Below.refl _ _⟩
  case round=>
   obtain⟨j,rfl,hj,hown,bel⟩:=hrel
   by_cases hlt:j<L.length
   ·have hltI:(j:Int)<L.length:=by omega
    obtain⟨s0',n0',c0',e1,_,_,_,g1⟩:=(SliceIs.ownedK HR.out).get
    cases e1
    have hlt':j<(L.map PF.ml).length:=by rw[List.length_map];exact hlt
    obtain⟨g2,g3,g4⟩:=zcr (L.map PF.ml) j hlt'
    rw[List.getElem_map] at g2 g3 g4
    obtain⟨ad,rfl,d0⟩:=g1 _ _ g2
    obtain⟨a',e',d1⟩:=g1 _ _ g3
    cases e'
    obtain⟨a',e',d2⟩:=g1 _ _ g4
    cases e'
    clear g1 g2 g3 g4
    have NX:=hid (show zbw ((L.take (j+1)).map fun f=>SP.lineT f.line)=zbw ((L.take j).map fun f=>SP.lineT f.line)++[.string (bs (SP.lineT L[j].line))] by
     rw[List.take_succ_eq_append_getElem hlt,List.map_append];exact zcz _ _)
    obtain⟨p1,p2⟩:=HEA.out L[j] (List.getElem_mem _)
    have p1:=((zbi _).1 p1).2.1
    have hS:=zdv (L[j]).d
    have ES:=hid (zxz (L[j]).line)
    have hN0:(L[j]).line.N=((L[j]).d.length:Nat):=rfl
    have hn0:(L[j]).line.n=(L[j]).n:=rfl
    have hS0:(L[j]).line.S=za5 (L[j]).d:=rfl
    rw[hN0,hn0,hS0] at ES
    have d0:w2.cell? (ad.add (j * 3))=some (.string (bs (L[j]).n)):=d0
    have d1:w2.cell? ⟨(ad.add (j * 3)).block,(ad.add (j * 3)).off+1,none⟩=some (.int .i64 ((L[j]).d.length:Nat)):=zao d1
    have d2:w2.cell? ⟨(ad.add (j * 3)).block,(ad.add (j * 3)).off+2,none⟩=some (.int .i64 (za5 (L[j]).d:Nat)):=zao d2
    rw[Int.toNat_natCast] at ES
    have ADL:=hid (World.block_lt_of_cell? w2 _ d0)
    have d0:=(bel.cell (World.block_lt_of_cell? w2 _ d0)).trans d0
    have d1:=(bel.cell (World.block_lt_of_cell? w2 _ d1)).trans d1
    have d2:=(bel.cell (World.block_lt_of_cell? w2 _ d2)).trans d2
    have KK:=hid (show j+1≤L.length by omega)
    have x1:(0:Int)≤j:=by omega
    have x2:(j:Int).toNat=j:=by omega
    generalize SP.lineT (L[j]).line=T at *
    generalize za5 (L[j]).d=S at *
    generalize (L[j]).d.length=N at *
    generalize (L[j]).n=nm at *
    have DN:=hid (fun(w':World)=>zbt N w' (by omega))
    have DS:=hid (fun(w':World)=>zbt S w' (by omega))
    have q1:(Lib.decDigits N).length≤10:=zay (k:=9) (by omega)
    have q2:(Lib.decDigits S).length≤10:=zay (k:=9) (by omega)
    generalize Lib.decDigits N=dN at *
    generalize Lib.decDigits S=dS at *
    obtain⟨Y1,hY1⟩:∃Y,Y=nm++[58]:=⟨_,rfl⟩
    obtain⟨Y2,hY2⟩:∃Y,Y=Y1++dN:=⟨_,rfl⟩
    obtain⟨Y3,hY3⟩:∃Y,Y=Y2++[58]:=⟨_,rfl⟩
    have hA1:bs nm++⟨#[58]⟩=bs Y1:=by rw[ybr,hY1];exact zc6 nm [58]
    have hA2:bs Y1++bs dN=bs Y2:=by rw[hY2];exact zc6 _ _
    have hA3:bs Y2++⟨#[58]⟩=bs Y3:=by rw[ybr,hY3];exact zc6 Y2 [58]
    have hA4:bs Y3++bs dS=bs T:=by rw[ES.out,hY3,hY2,hY1];exact(zc6 _ _).trans (by simp)
    have l1:Y1.length≤13:=by rw[hY1,List.length_append];simp;omega
    have l2:Y2.length≤23:=by rw[hY2,List.length_append];omega
    have l3:Y3.length≤24:=by rw[hY3,List.length_append];simp;omega
    have hc1:¬9223372036854775807<nm.length+1:=by omega
    have hc2:¬9223372036854775807<Y1.length+dN.length:=by omega
    have hc3:¬9223372036854775807<Y2.length+1:=by omega
    have hc4:¬9223372036854775807<Y3.length+dS.length:=by omega
    have HN1:Hid (j+1≤maxLen):=by show _≤_;unfold maxLen;omega
    have HN2:Hid ((j+1) * 16≤140737488355328):=by show _≤_;omega
    have HO:=hid hown
    have BW:=hid bel
    obtain⟨va,vc,rfl⟩:=zab hown
    have OB:Hid (∀x,(Value.slice va j vc).ownBlock=some x→w2.heap.size≤x∧x<wr.heap.size):=hid fun x hx=>HO.out.lt x hx
    have BD:=hid (Below.drew (Below.refl wr.heap.size wr))
    have DD:=hid (fun(X:World)(b:Below wr.heap.size wr X)=>(show X.cell? (ad.add (j * 3))=some (.string (bs nm))∧X.cell? ⟨(ad.add (j * 3)).block,(ad.add (j * 3)).off+1,none⟩=some (.int .i64 (N:Nat))∧X.cell? ⟨(ad.add (j * 3)).block,(ad.add (j * 3)).off+2,none⟩=some (.int .i64 (S:Nat)) from⟨(b.cell (World.block_lt_of_cell? wr _ d0)).trans d0,(b.cell (World.block_lt_of_cell? wr _ d1)).trans d1,(b.cell (World.block_lt_of_cell? wr _ d2)).trans d2⟩))
    have S0:=And.intro d0 (And.intro d1 d2)
    have S1:=DD.out _ BD.out
    have BG:=hid (fun(X:World)(o:Obj)(w5:World)(b:Below wr.heap.size wr X)(g:(X.alloc o).grownBy w5 (Value.slice va j vc).ownBlock)=>show Below w2.heap.size w2 w5 from((zaa BW.out b).alloc (zaa BW.out b).size o).grown g (by have:=(zaa BW.out b).size;simp;omega) (fun k hk=>(OB.out k hk).1))
    have NB:=hid (fun(X:World)(o:Obj)(b:Below wr.heap.size wr X)=>show w2.heap.size≤(X.alloc o).heap.size by have:=(zaa BW.out b).size;simp;omega)
    have KG:=hid (fun(X:World)(o:Obj)(w5:World)(b:Below wr.heap.size wr X)(g:(X.alloc o).grownBy w5 (Value.slice va j vc).ownBlock)=>(show w5.cell? (ad.add (j * 3))=some (.string (bs nm))∧w5.cell? ⟨(ad.add (j * 3)).block,(ad.add (j * 3)).off+1,none⟩=some (.int .i64 (N:Nat))∧w5.cell? ⟨(ad.add (j * 3)).block,(ad.add (j * 3)).off+2,none⟩=some (.int .i64 (S:Nat)) from by
     have hb0:=World.block_lt_of_cell? wr _ d0
     have hb:w5.heap[(ad.add (j * 3)).block]?=wr.heap[(ad.add (j * 3)).block]?:=(g.block _ (by have:=b.size;simp;omega) (fun e=>by have:=(OB.out _ e.symm).1;have:=ADL.out;omega)).trans ((Below.heap_alloc X o _ (by have:=b.size;omega)).trans (b.block _ hb0))
     have ck:∀k,w5.cell? ⟨(ad.add (j * 3)).block,k,none⟩=wr.cell? ⟨(ad.add (j * 3)).block,k,none⟩:=fun k=>by unfold World.cell?;rw[hb]
     refine⟨?_,(ck _).trans d1,(ck _).trans d2⟩
     rw[←d0]
     unfold World.cell?
     rw[hb]))
    have AL:=hid (fun(X:World)(o:Obj)(b:Below wr.heap.size wr X)=>b.alloc b.size o)
    clear hown bel hY1 hY2 hY3 ES l1 l2 l3 q1 q2 hN0 hn0 hS0 d0 d1 d2
    go_wp2_with fail
    go_region_held3 (fun X=>X.cell? (ad.add (j * 3))=some (.string (bs nm))∧X.cell? ⟨(ad.add (j * 3)).block,(ad.add (j * 3)).off+1,none⟩=some (.int .i64 (N:Nat))∧X.cell? ⟨(ad.add (j * 3)).block,(ad.add (j * 3)).off+2,none⟩=some (.int .i64 (S:Nat))) (first|exact S0|exact S1|exact DD.out _ (by assumption)|exact DD.out _ (AL.out _ _ (by assumption))|assumption)
     (first
     | (go_at_call 26;(with_reducible refine(DN.out _).mono ?_);rintro e v1⟨rfl,b1⟩;have c1:=zaa BD.out b1)
     | (go_at_call 26;(with_reducible refine(DS.out _).mono ?_);rintro e v2⟨rfl,b2⟩;have c2:=zaa (by assumption) b2)
     | (refine za7 rfl (.tmp 92) (.tmp 114) 22 rfl w2.heap.size 9 i0 _ 1 16 Tryz.underlying22 hi hz0 hz1 hz2 rfl (by decide) (.slice va j vc) j _ rfl ((zad HO.out (by assumption)).alloc _) ⟨_,0,none⟩ 1 1 [.string (bs T)] rfl rfl (zc4 (by simp)) (zbs rfl) HN1.out HN2.out (NB.out _ _ (by assumption)) ?_;intro v' w5 hown5 hgrow _;have HO5:=hid hown5;have HG5:=hid (BG.out _ _ _ (by assumption) hgrow);have S5:=KG.out _ _ _ (by assumption) hgrow))
    go_wp2_with fail
    go_roundw
    case rel=>exact⟨j+1,by go_num,KK.out,by rw[NX.out];exact HO5.out,HG5.out⟩
    case measure=>have:=KK.out;simp[intOf];omega
   ·have hltI:¬(j:Int)<L.length:=by omega
    obtain rfl:j=L.length:=by omega
    rw[List.take_length] at hown
    have HJ:=hid (zmo (L.map fun f=>SP.lineT f.line) _ wr (SliceIs.ownedK hown) (by have:=GL.out L.length;rw[List.take_length] at this;omega) (by rw[List.length_map];omega))
    obtain⟨va,vc,rfl⟩:=zab hown
    have BW:=hid (zaa B2.out bel)
    clear hown bel
    go_wp2_with fail
    refine HJ.out.mono ?_
    rintro e w3⟨rfl,rfl⟩
    clear HJ
    go_wp2_with fail
    go_returns
    exact DAns.same HX.out BW.out rfl
end
section
theorem ykd:(Tryz.prog.info? 3).map (fun i=>(i.zero,i.size,i.bytes))=some (some (.int .i64 0),1,8):=by kernel_rfl
def intV(l:List Nat):List Value:=l.map fun n=>.int .i64 (n:Nat)
theorem yfs(l:List Nat)(n:Nat):intV (l++[n])=intV l++[.int .i64 (n:Nat)]:=by simp[intV]
attribute [local irreducible] SP.nums nmL
theorem ydr(ws:List (List UInt8))(v:Value)(w:World)(hv:SliceIs w v 1 (zbw ws))(hl:ws.length≤1000)(hw:∀x∈ws,x.length≤1000):
  Calls Tryz.prog 34 #[v] w fun e w'=>∃r,e=.returned (.tuple #[r,.bool (SP.nums ws).isSome])∧(∃a n c,r=.slice a n c)∧Below w.heap.size w w':=by
 obtain⟨i0,hi,hz0,hz1,hz2⟩:=info_parts ykd
 obtain⟨s0,m0,c0,rfl,hm0,hm1,hm2,g1⟩:=hv.get
 have hm0:m0=ws.length:=by unfold zbw at hm0;simpa using hm0.symm
 subst hm0
 have HV:=hid hv
 have NU:=hid (fun(d:List UInt8)(hd:d∈ws)(w':World)=>zck (bs d) 6 w' (by omega) (by have:=hw d hd;rw[zae];omega))
 have Q1:=hid (fun (j:Nat) (hj:j<ws.length) hx=>zmz (ws:=ws) hj hx)
 clear hv g1 hw
 go_enter Tryz.func34,Tryz.ntmps34
 go_wp2_with fail
 go_loopw [4,5,6] (fun o i _ wr=>∃(j:Nat)(l:List Nat),i=.int .i64 j∧j≤ws.length∧SP.nums (ws.take j)=some l∧wr.ownsRow w.heap.size 3 1 o l.length (intV l)∧Below w.heap.size w wr) (fun _ i _ _=>ws.length - (intOf i).toNat)
 case atStart=>exact⟨0,[],rfl,by omega,zxq ws,World.ownsRow_nil _ _ _ _,Below.refl _ _⟩
 case round=>
  obtain⟨j,l,rfl,hj,hn,hown,bel⟩:=hrel
  have HO:=hid hown
  have BW:=hid bel
  have BS:=hid bel.size
  obtain⟨va,vc,rfl⟩:=zab hown
  have hll:=zqs hn
  rw[List.length_take] at hll
  have HN:=hid hn
  have HN1:Hid (l.length+1≤maxLen):=by show _≤_;unfold maxLen;omega
  have HN2:Hid ((l.length+1) * 8≤140737488355328):=by show _≤_;omega
  clear hn bel hown
  have x1:(0:Int)≤j:=by omega
  have x2:(j:Int).toNat=j:=by omega
  by_cases hlt:j<ws.length
  ·have hltI:(j:Int)<ws.length:=by omega
   obtain⟨s0',n0',c0',e1,_,_,_,g1⟩:=(HV.out.below BW.out).get
   cases e1
   obtain⟨ad,rfl,d0⟩:=g1 _ _ (zgp ws j hlt)
   have KK:=hid (show j+1≤ws.length by omega)
   have NU1:=hid (NU.out ws[j] (List.getElem_mem _) wr)
   rw[zai] at NU1
   cases hx:nmL 6 ws[j] with
   | none=>
    have HQ:=hid (Q1.out j hlt hx)
    rw[zdc hx] at NU1
    generalize ws[j]=x at *
    clear hx g1 NU Q1 hll
    go_wp2_with fail
    refine NU1.out.mono ?_
    rintro e w1⟨rfl,rfl⟩
    go_wp2_with fail
    go_returns
    rw[HQ.out]
    exact⟨_,rfl,⟨_,_,_,rfl⟩,BW.out⟩
   | some n=>
    have NT:=hid (zsr hlt HN.out hx)
    rw[zdp hx] at NU1
    have n0:¬(n:Int)<0:=by omega
    generalize ws[j]=x at *
    clear hx g1 NU Q1 hll HN
    go_wp2_with fail
    refine NU1.out.mono ?_
    rintro e w1⟨rfl,rfl⟩
    clear NU1
    go_wp2_with (at_builtin;refine wpList_append_own _ rfl _ _ 92 rfl w.heap.size 3 i0 _ 1 8 Tryz.underlying92 hi hz0 hz1 hz2 rfl (by decide) _ _ _ rfl (HO.out.alloc _) ⟨wr.heap.size,0,none⟩ 1 1 [.int .i64 n] rfl rfl (zc4 (by simp)) (zbs rfl) HN1.out HN2.out (by have:=BS.out;simp;omega) ?_;intro v' w5 hown5 hgrow _;have HO5:=hid hown5;have B5:=hid ((BW.out.alloc BS.out _).grown hgrow (by have:=BS.out;simp;omega) (fun j hj=>(HO.out.lt j hj).1));clear hown5 hgrow)
    go_roundw
    case rel=>exact⟨j+1,l++[n],by go_num,KK.out,NT.out,by rw[yfs,List.length_append];exact HO5.out,B5.out⟩
    case measure=>have:=KK.out;simp[intOf];omega
  ·have hltI:¬(j:Int)<ws.length:=by omega
   obtain rfl:j=ws.length:=by omega
   have hn:=HN.out
   rw[List.take_length] at hn
   have HQ:=hid hn
   clear hn HN
   go_wp2_with fail
   go_returns
   rw[HQ.out]
   exact⟨_,rfl,⟨_,_,_,rfl⟩,BW.out⟩
end
end Go.Proofs.YtakhkcaihhpehaaGreatDoor
