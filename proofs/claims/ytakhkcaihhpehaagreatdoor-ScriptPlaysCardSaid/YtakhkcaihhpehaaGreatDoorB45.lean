/- Texts of one proof, one behind the other: RefPlanOf. -/
import Derived.Test.YtakhkcaihhpehaaGreatDoorB44
import Derived.Test.YtakhkcaihhpehaaGreatDoorB18
import Derived.Test.YtakhkcaihhpehaaGreatDoorB19
namespace Go.Proofs.YtakhkcaihhpehaaGreatDoor
open Go.RowKit
open Lib (hid)
set_option linter.unusedVariables false
set_option maxRecDepth 100000
set_option maxHeartbeats 51200000
theorem yct{w:World}{b g:Nat}{o:Obj}(h:w.heap[b]?=some o)(hb:b≠g)(u v:Value):((w.setCell ⟨g,0,none⟩ u).setCell ⟨g,1,none⟩ v).heap[b]?=some o:=by
 have hl:=lt_of_block h
 have g1:=zam (zap w g 0 u) (zap (w.setCell ⟨g,0,none⟩ u) g 1 v)
 exact(g1.block b hl (fun e=>hb (Option.some.inj e))).trans h
theorem yiv{w w':World}{o:Obj}{b g m size:Nat}{e:TypeId}{v:Value}{xs:List Value}(ho:w.ownsRow (g+1) e size v m xs)(hg:(w.alloc o).grownBy w' v.ownBlock)(hb:b≤g)(hs:b<w.heap.size):
  w'.heap[b]?=w.heap[b]?:=(hg.block b (by simp;omega) (fun e=>by have:=(ho.lt _ e.symm).1;omega)).trans (heap_alloc_old _ _ hs)
theorem yc5{w w0 w':World}{o:Obj}{B g m size:Nat}{e:TypeId}{v:Value}{xs:List Value}(h:Below B w0 w)(ho:w.ownsRow (g+1) e size v m xs)(hg:(w.alloc o).grownBy w' v.ownBlock)(hb:B≤g)(hs:B≤w.heap.size):Below B w0 w':=
 (h.alloc hs o).grown hg (by simp;omega) (fun j hj=>by have:=(ho.lt j hj).1;omega)
theorem yc2{P:Program}(t:TypeId)(a b:List UInt8)(w:World):(binOp .lss t (.string (bs a)) (.string (bs b))).run P w=.ok (.bool (ltL a b)) w:=by
 simp only[binOp,Op.stringOp,za4]
 rfl
theorem zif(l:List PM)(n:List UInt8):∀(k:Int),(zkx l n k=-1∧∀x∈l,x.n≠n)∨∃(j:Nat)(h:j<l.length),zkx l n k=k+j∧(l[j]'h).n=n:=by
 induction l with
 | nil=>intro k;exact .inl ⟨rfl,by simp⟩
 | cons x l ih=>
  intro k
  unfold zkx
  by_cases h:x.n=n
  ·rw[if_pos h];exact .inr ⟨0,by simp,by simp,h⟩
  ·rw[if_neg h]
   rcases ih (k+1) with⟨h1,h2⟩|⟨j,hj,h1,h2⟩
   ·refine .inl ⟨h1,fun y hy=>?_⟩
    rcases List.mem_cons.1 hy with rfl|hy
    ·exact h
    ·exact h2 y hy
   ·exact .inr ⟨j+1,by simp;omega,by rw[h1];push_cast;omega,by simpa using h2⟩
theorem ymr:(Tryz.prog.info? 81).map (fun i=>(i.zero,i.size,i.bytes))=some (some (.agg #[.string ⟨#[]⟩,.string ⟨#[]⟩]),2,32):=by kernel_rfl
theorem zzf{w:World}{b:Nat}{x y:Value}(h:w.heap[b]?=some (.cells #[x,y] 81 (0,0))):SliceIs w (.slice (some ⟨b,0,none⟩) 1 1) 2 [x,y]:=
 .inr ⟨_,1,1,rfl,Nat.le_refl _,by unfold maxLen;omega,rfl,fun j u' hj=>by
  match j,hj with
  | 0,hj=>simp at hj;subst hj;simp[World.cell?,h,Addr.add]
  | 1,hj=>simp at hj;subst hj;simp[World.cell?,h,Addr.add]⟩
theorem zno{l:List PL}{k:Nat}(h:l.length≤k):l.drop k=[]:=List.drop_of_length_le h
theorem ymk{x y:PM}(hx:x.ok32)(hy:y.ok32)(h:x.pl=y.pl):x=y:=by
 obtain⟨n,N,S⟩:=x
 obtain⟨n',N',S'⟩:=y
 simp only[PM.pl,PM.ok32] at *
 injection h with e1 e2 e3
 have:S=S':=by omega
 rw[e1,e2,this]
theorem yfo{b:List PM}{x:PM}(h:∀y∈b,y.n≠x.n):zge (b.map PM.pl) x.pl=⟨zaz,x.n⟩:=by
 unfold zge
 rw[if_neg fun hm=>by
  obtain⟨y,hy,e⟩:=List.mem_map.1 hm
  exact h y hy (congrArg PL.n e)]
 rfl
theorem yfn{b:List PM}{x:PM}(hb:LWF (b.map PM.pl))(h32:∀y∈b,y.ok32)(hx:x.ok32){j:Nat}(hj:j<b.length)(e:(b[j]'hj).n=x.n):
  zge (b.map PM.pl) x.pl=if (b[j]'hj).N=x.N∧(b[j]'hj).S=x.S then ⟨zg7,x.n⟩ else ⟨zaz,x.n⟩:=by
 have hm:(b[j]'hj)∈b:=List.getElem_mem hj
 unfold zge
 by_cases h:(b[j]'hj).N=x.N∧(b[j]'hj).S=x.S
 ·have hxy:(b[j]'hj)=x:=by
   cases hbj:(b[j]'hj);cases x
   rw[hbj] at h e
   simp only[] at h e
   rw[e,h.1,h.2]
  rw[if_pos h,if_pos (List.mem_map.2 ⟨_,hm,by rw[hxy]⟩)];rfl
 ·rw[if_neg h,if_neg fun hmm=>?_]
  ·rfl
  ·obtain⟨y,hy,ey⟩:=List.mem_map.1 hmm
   have hs:Srt (b.map PM.pl):=hb.sorted
   have hyn:y.n=x.n:=congrArg PL.n ey
   have hyx:=ymk (h32 y hy) hx ey
   have h1:((b[j]'hj)).pl∈b.map PM.pl:=List.mem_map.2 ⟨_,hm,rfl⟩
   have h2:y.pl∈b.map PM.pl:=List.mem_map.2 ⟨_,hy,rfl⟩
   have:(b[j]'hj).pl=y.pl:=by
    rcases List.mem_iff_getElem.1 h1 with⟨p,hp,ep⟩
    rcases List.mem_iff_getElem.1 h2 with⟨q,hq,eq⟩
    rcases Nat.lt_trichotomy p q with c|c|c
    ·have:=List.pairwise_iff_getElem.1 hs p q hp hq c
     rw[ep,eq] at this
     exact absurd (show(b[j]'hj).n=y.n by rw[e,hyn]) (zbm this)
    ·subst c;rw[←ep,←eq]
    ·have:=List.pairwise_iff_getElem.1 hs q p hq hp c
     rw[ep,eq] at this
     exact absurd (show y.n=(b[j]'hj).n by rw[e,hyn]) (zbm this)
   have:=ymk (h32 _ hm) (h32 y hy) this
   rw[this,hyx] at h
   exact h ⟨rfl,rfl⟩
theorem zgu{w:World}{ad:Addr}{n c:Nat}{l:List PM}(h:SliceIs w (.slice (some ad) n c) 3 (zc2 l)){k:Nat}(hk:k<l.length):
  w.cell? (ad.add (k * 3))=some (.string (bs (l[k]'hk).n))∧w.cell? ⟨(ad.add (k * 3)).block,(ad.add (k * 3)).off+1,none⟩=some (.int .i64 (l[k]'hk).N)∧w.cell? ⟨(ad.add (k * 3)).block,(ad.add (k * 3)).off+2,none⟩=some (.int .i64 (l[k]'hk).S):=by
 obtain⟨s',n',c',e,_,_,_,hg⟩:=h.get
 cases e
 obtain⟨x0,x1,x2⟩:=zcr l k hk
 obtain⟨a,e,d0⟩:=hg _ _ x0
 cases e
 obtain⟨a,e,d1⟩:=hg _ _ x1
 cases e
 obtain⟨a,e,d2⟩:=hg _ _ x2
 cases e
 exact⟨d0,zao d1,zao d2⟩
theorem zf6{x y:Int}(h:(x==y)=true)(w:World):(binOp .eql 3 (.int .i64 x) (.int .i64 y)).run Tryz.prog w=.ok (.bool true) w:=(show _=Result.ok (Value.bool (x==y)) w from rfl).trans (by rw[h])
theorem zf7{x y:Int}(h:(x==y)=false)(w:World):(binOp .eql 3 (.int .i64 x) (.int .i64 y)).run Tryz.prog w=.ok (.bool false) w:=(show _=Result.ok (Value.bool (x==y)) w from rfl).trans (by rw[h])
theorem yc0{x y:Int}(h:decide (x<y)=true)(w:World):(binOp .lss 3 (.int .i64 x) (.int .i64 y)).run Tryz.prog w=.ok (.bool true) w:=(show _=Result.ok (Value.bool (decide (x<y))) w from rfl).trans (by rw[h])
theorem yc1{x y:Int}(h:decide (x<y)=false)(w:World):(binOp .lss 3 (.int .i64 x) (.int .i64 y)).run Tryz.prog w=.ok (.bool false) w:=(show _=Result.ok (Value.bool (decide (x<y))) w from rfl).trans (by rw[h])
structure PlS(w wq:World)(g:Nat)(v:Value)(D:List PS):Prop where
 own:wq.ownsRow (g+1) 81 2 v D.length (zcw D)
 box:wq.heap[w.heap.size]?=some (.cells #[.int .i64 0,.int .i64 0] 64 (0,0))
 bel:Below w.heap.size w wq
 sz:g+1≤wq.heap.size
theorem PlS.drewN{w wq:World}{g:Nat}{v:Value}{D:List PS}(h:PlS w wq g v D)(n:Nat):PlS w (World.drewN wq n) g v D:=⟨h.own,h.box,zac h.bel n,h.sz⟩
theorem zca{w X:World}{g:Nat}{ops:Array Oper}{rest:List Oper}{o:Oper}{a:Act}{Q:Exit→Act→World→Prop}{V:Array Value}{D:List PS}{v:Value}{q:PS}(hgd:o.guard=none)(s x:Operand)(ho:o.op=.call {callee:=.builtin .append,args:=#[s,x],argTypes:=#[77,77]})(hs:a.eval s=v)(h:PlS w X g v D)(hwg:w.heap.size≤g)(hm:D.length≤100000)(hV:V.toList=[.string (bs q.k),.string (bs q.n)])(hx:a.eval x=.slice (some ⟨X.heap.size,0,none⟩) 1 1)
  (k:∀v' w',w'.ownsRow (g+1) 81 2 v' (D++[q]).length (zcw (D++[q]))→w'.heap[w.heap.size]?=some (.cells #[.int .i64 0,.int .i64 0] 64 (0,0))→Below w.heap.size w w'→g+1≤w'.heap.size→wpList Tryz.prog ops Q rest (a.put o.dst v') w'):wpList Tryz.prog ops Q (o::rest) a (X.alloc (.cells V 81)):=by
 obtain⟨i0,hi,hz0,hz1,hz2⟩:=info_parts ymr
 have hV':V=#[.string (bs q.k),.string (bs q.n)]:=by rw[←Array.toList_inj,hV]
 subst hV'
 have hsz:=h.sz
 have hbs:=h.bel.size
 have lo:∀y,v.ownBlock=some y→g+1≤y:=fun y hy=>(h.own.lt y hy).1
 refine zak hgd s x 77 ho (g+1) 81 i0 _ 2 32 Tryz.underlying77 hi hz0 hz1 hz2 rfl (by decide) v D.length (zcw D) hs (h.own.alloc _) _ 1 [.string (bs q.k),.string (bs q.n)] hx (zzf (heap_alloc_new _ _)) rfl (fun u hu=>by simp at hu;rcases hu with rfl|rfl<;>rfl) (by unfold maxLen;omega) (by omega) (by simp;omega) ?_
 intro v' w5 ho5 hg _
 refine k v' w5 (by rw[zjh,zof,List.length_append];exact ho5) ?_ ?_ ?_
 ·exact(yiv h.own hg hwg (lt_of_block h.box)).trans h.box
 ·exact yc5 h.bel h.own hg hwg hbs
 ·have h1:=hg.size;simp at h1;omega
theorem yed(a b:List PM)(v1 v2:Value)(w:World)(h1:SliceIs w v1 3 (zc2 a))(h2:SliceIs w v2 3 (zc2 b))(s1:∀x∈a,x.ok32)(s2:∀x∈b,x.ok32)(ha:LWF (a.map PM.pl))(hb:LWF (b.map PM.pl)):
  Calls Tryz.prog 28 #[v1,v2] w fun e w'=>∃r,e=.returned (.tuple #[r,rfv (0,-1)])∧w'.ownsRow w.heap.size 81 2 r (zb3 (a.map PM.pl) (b.map PM.pl)).length (zcw (zb3 (a.map PM.pl) (b.map PM.pl)))∧Below w.heap.size w w':=by
 have HB0:=hid (zb0 w (.cells #[.int .i64 0,.int .i64 0] 64))
 have hna:∀x∈a,x.n.length≤1000000000:=fun x hx=>by have:=((zbi _).1 (ha.each x.pl (List.mem_map.2 ⟨x,hx,rfl⟩)).1).2.1;show x.n.length≤_;have h:x.pl.n=x.n:=rfl;rw[h] at this;omega
 have hnb:∀x∈b,x.n.length≤1000000000:=fun x hx=>by have:=((zbi _).1 (hb.each x.pl (List.mem_map.2 ⟨x,hx,rfl⟩)).1).2.1;have h:x.pl.n=x.n:=rfl;rw[h] at this;omega
 have FA:=zfz a v1 _ (h1.below HB0.out) hna
 have FB:=fun(w':World)(bl:Below w.heap.size w w')=>zfz b v2 w' (h2.below bl) hnb
 rw[zfx ((zd6 _).2 ha)] at FA
 rw[zfx ((zd6 _).2 hb)] at FB
 simp only[zdz] at FA FB
 have HA:=hid FA
 have HB:=hid FB
 have HZ0:=hid (heap_alloc_new w (.cells #[.int .i64 0,.int .i64 0] 64))
 have hla:=ha.few
 have hlb:=hb.few
 rw[List.length_map] at hla hlb
 have TOT:=hid (yji (A:=a.map PM.pl) (T:=b.map PM.pl) ha.sorted hb.sorted)
 have HPL:=hid (zh6 (a.map PM.pl) (b.map PM.pl))
 have hpl:=HPL.out
 rw[List.length_map,List.length_map] at hpl
 have KN:=hid (fun x h=>yfo (b:=b) (x:=x) h)
 have KS:=hid (fun x (hx:x∈a) j hj e=>yfn hb s2 (s1 x hx) (j:=j) hj e)
 have HS1:=hid h1
 have HS2:=hid h2
 obtain⟨sa,na,ca,rfl,qa,qb,qc,qd⟩:=h1.get
 obtain⟨sb,nb,cb,rfl,qe,qf,qg,qh⟩:=h2.get
 rw[zks] at qa qe
 obtain rfl:na=a.length:=by omega
 obtain rfl:nb=b.length:=by omega
 unfold maxLen at qc qg
 obtain⟨i0,hi,hz0,hz1,hz2⟩:=info_parts ymr
 have FR:=hid (fun(n:List UInt8)(w':World)(bl:Below w.heap.size w w')=>zya a _ n w' (HS1.out.below bl))
 have FT:=hid (fun(n:List UInt8)(w':World)(bl:Below w.heap.size w w')=>zya b _ n w' (HS2.out.below bl))
 rw[zdz]
 generalize zb3 (a.map PM.pl) (b.map PM.pl)=P at *
 clear FA FB h1 h2 hna hnb ha hb s1 s2 qa qb qd qe qf qh HPL
 go_enter Tryz.func28,Tryz.ntmps28
 go_wp2_with fail
 refine HA.out.mono ?_
 rintro e w1⟨rfl,b1⟩
 have hz1':=(b1.block w.heap.size (by simp)).trans HZ0.out
 have hlt1:w.heap.size<w1.heap.size:=lt_of_block hz1'
 have bb1:=zaa HB0.out b1
 clear b1 HA HB0
 go_wp2_with fail
 have hy:=heap_alloc_new w1 (.cells #[.int .i64 0,.int .i64 (-1)] 64)
 have hx:=(heap_alloc_old w1 (.cells #[.int .i64 0,.int .i64 (-1)] 64) hlt1).trans hz1'
 have bb2:=bb1.alloc bb1.size (.cells #[.int .i64 0,.int .i64 (-1)] 64)
 have hne:w.heap.size≠w1.heap.size:=by omega
 have hge:w.heap.size≤w1.heap.size:=by omega
 clear hz1' bb1
 generalize w1.alloc (.cells #[.int .i64 0,.int .i64 (-1)] 64)=w2 at *
 generalize w1.heap.size=g at *
 refine(HB.out _ bb2).mono ?_
 rintro e w3⟨rfl,b3⟩
 have hx3:=(b3.block w.heap.size (lt_of_block hx)).trans hx
 have hy3:=(b3.block g (lt_of_block hy)).trans hy
 have bb3:=zaa bb2 b3
 have f0:w3.frozen? ⟨g,0,none⟩=false:=by simp[World.frozen?,hy3]
 have f1:w3.frozen? ⟨g,1,none⟩=false:=by simp[World.frozen?,hy3]
 have e0:w3.cell? ⟨g,0,none⟩=some (.int .i64 0):=by simp[World.cell?,hy3]
 have e1:w3.cell? ⟨g,1,none⟩=some (.int .i64 (-1)):=by simp[World.cell?,hy3]
 have hx4:=yct (g:=g) hx3 hne (.int .i64 0) (.int .i64 (-1))
 have bb4:=(bb3.setCell (p:=⟨g,0,none⟩) hge (.int .i64 0)).setCell (p:=⟨g,1,none⟩) hge (.int .i64 (-1))
 have hg4:g+1≤((w3.setCell ⟨g,0,none⟩ (.int .i64 0)).setCell ⟨g,1,none⟩ (.int .i64 (-1))).heap.size:=by have:=lt_of_block hy3;simp;omega
 obtain⟨s0,s1⟩:=zut hy3 (.int .i64 0) (.int .i64 (-1))
 clear b3 hx hy bb2 hx3 hy3 bb3 HB
 go_wp2_with fail
 generalize (w3.setCell ⟨g,0,none⟩ (.int .i64 0)).setCell ⟨g,1,none⟩ (.int .i64 (-1))=w4 at *
 clear f0 f1 e0 e1 s0 s1
 have HG:=hid (show w.heap.size≤g from hge)
 go_loopw [9,8,7,10,11] (fun i k o _ _ wr=>∃(m j:Nat)(D:List PS),i=.int .i64 m∧m≤a.length∧k=.int .i64 j∧j≤b.length∧D++zct (a.map PM.pl) (b.map PM.pl) ((a.map PM.pl).drop m) ((b.map PM.pl).drop j)=P∧wr.ownsRow (g+1) 81 2 o D.length (zcw D)∧wr.heap[w.heap.size]?=some (.cells #[.int .i64 0,.int .i64 0] 64 (0,0))∧Below w.heap.size w wr∧g+1≤wr.heap.size) (fun i _ _ _ _ _=>a.length+1 - (intOf i).toNat)
 case atStart=>exact⟨0,0,[],rfl,by omega,rfl,by omega,TOT.out,by rw[zog];exact World.ownsRow_nil _ _ _ _,hx4,bb4,hg4⟩
 case round=>
  clear bb4 hx4
  obtain⟨m,j,D,rfl,hm,rfl,hj,hinv,hown,hz,bel,hszr⟩:=hrel
  have hmI:(m:Int)≤a.length:=by omega
  have MM:=hid hm
  have hsz:g+1≤wr.heap.size:=hszr
  go_wp2_with fail
  go_loopw [8,7] (fun kk oo wi=>∃(j:Nat)(D:List PS),kk=.int .i64 j∧j≤b.length∧D++zct (a.map PM.pl) (b.map PM.pl) ((a.map PM.pl).drop m) ((b.map PM.pl).drop j)=P∧wi.ownsRow (g+1) 81 2 oo D.length (zcw D)∧wi.heap[w.heap.size]?=some (.cells #[.int .i64 0,.int .i64 0] 64 (0,0))∧Below w.heap.size w wi∧g+1≤wi.heap.size) (fun kk _ _=>b.length - (intOf kk).toNat)
  case atStart=>exact⟨j,D,rfl,hj,hinv,hown,hz,bel,hsz⟩
  case round=>
   clear hinv hown hz bel hj hsz
   obtain⟨j,D,rfl,hj,hinv,hown,hz,bel,hsz⟩:=hrel
   have HI:=hid hinv
   have HO':=hid hown
   have HZ:=hid hz
   have BW:=hid bel
   have HSZ:=hid hsz
   obtain⟨va,vc,rfl⟩:=zab hown
   have HO:=hid hown
   have hDl:D.length≤P.length:=by have:=congrArg List.length hinv;rw[List.length_append] at this;omega
   clear HO' hinv hown hz bel hsz
   have z1:(0:Int)≤j:=by omega
   have z2:(j:Int).toNat=j:=by omega
   by_cases hjl:j<b.length
   ·have hjI:(j:Int)<b.length:=by omega
    have hlss:=yc0 (x:=(j:Int)) (y:=(b.length:Int)) (by rw[decide_eq_true hjI])
    have JJ:=hid (show j+1≤b.length from hjl)
    obtain⟨s',n',c',q,_,_,_,g1⟩:=(HS2.out.below BW.out).get
    cases q
    obtain⟨ad,rfl,dx⟩:=g1 _ _ (zcr b j hjl).1
    clear dx g1
    have hBm:j<(b.map PM.pl).length:=by rw[List.length_map];exact hjl
    have hBd:(b.map PM.pl).drop j=(b[j]'hjl).pl::(b.map PM.pl).drop (j+1):=by rw[List.drop_eq_getElem_cons hBm,List.getElem_map]
    obtain⟨yd0,_,_⟩:=zgu (HS2.out.below BW.out) hjl
    by_cases hma:m=a.length
    ·subst hma
     have hmb:((a.length:Int)==a.length)=true:=by rw[beq_iff_eq]
     have hieq:=zf6 (x:=(a.length:Int)) (y:=(a.length:Int)) (by rw[hmb])
     have NXT:=hid (show D++(zch (a.map PM.pl) [(b[j]'hjl).pl]++zct (a.map PM.pl) (b.map PM.pl) ((a.map PM.pl).drop a.length) ((b.map PM.pl).drop (j+1)))=P by
      have h:=HI.out
      have e:(a.map PM.pl).drop a.length=[]:=zno (by rw[List.length_map];omega)
      rw[e,hBd,yaa] at h
      rw[e];exact h)
     generalize hy:b[j]'hjl=y at yd0 NXT
     have HY:=hid hy
     clear hy hBd HI
     go_wp2_with fail
     go_quiet (fail)
     go_wp2_with fail
     refine(FR.out y.n _ (zac BW.out _)).mono ?_
     rintro e wq⟨rfl,hwq⟩
     have BQ:=hid (show Below w.heap.size w wq by rw[hwq];first|exact BW.out|exact zac BW.out _)
     have OQ:=hid (show wq.ownsRow (g+1) 81 2 (.slice va D.length vc) D.length (zcw D) by rw[hwq];exact HO.out)
     have ZQ:=hid (show wq.heap[w.heap.size]?=some (.cells #[.int .i64 0,.int .i64 0] 64 (0,0)) by rw[hwq];exact HZ.out)
     have HSQ:=hid (show g+1≤wq.heap.size by rw[hwq];exact HSZ.out)
     have PQ:=hid (PlS.mk OQ.out ZQ.out BQ.out HSQ.out)
     clear hwq
     obtain⟨e0,_⟩:=zgu (HS2.out.below BQ.out) hjl
     rw[HY.out] at e0
     rcases zif a y.n 0 with⟨h1,h2⟩|⟨jj,hjj,h1,h2⟩
     ·rw[h1]
      have Y:=hid (show(D++[⟨zds,y.n⟩])++zct (a.map PM.pl) (b.map PM.pl) ((a.map PM.pl).drop a.length) ((b.map PM.pl).drop (j+1))=P by
       have h:=NXT.out
       rw[zpf (fun x hx=>by obtain⟨z,hz,rfl⟩:=List.mem_map.1 hx;exact h2 z hz)] at h
       rw[List.append_assoc];exact h)
      clear h1 h2 NXT
      go_wp2_with (at_builtin;refine zca rfl (.tmp 60) (.tmp 67) rfl rfl PQ.out HG.out (by omega) (q:=⟨zds,y.n⟩) (by simp only[zim]) rfl ?_;intro v' w5 HO5 Z5 B5 S5)
      go_roundw
      case rel=>exact⟨j+1,D++[⟨zds,y.n⟩],by go_num,JJ.out,Y.out,HO5,Z5,B5,S5⟩
      case measure=>simp[intOf];omega
     ·rw[h1,Int.zero_add]
      have hjn:¬((jj:Int)<0):=by omega
      have Y:=hid (show D++zct (a.map PM.pl) (b.map PM.pl) ((a.map PM.pl).drop a.length) ((b.map PM.pl).drop (j+1))=P by
       have h:=NXT.out
       rw[ztp ⟨(a[jj]'hjj).pl,List.mem_map.2 ⟨_,List.getElem_mem hjj,rfl⟩,(show(a[jj]'hjj).pl.n=y.pl.n from h2)⟩] at h
       exact h)
      clear h1 h2 NXT
      go_wp2_with fail
      go_roundw
      case rel=>exact⟨j+1,D,by go_num,JJ.out,Y.out,OQ.out,ZQ.out,BQ.out,HSQ.out⟩
      case measure=>simp[intOf];omega
    ·have hml:m<a.length:=by omega
     have hmlI:(m:Int)<a.length:=by omega
     have y1:(0:Int)≤m:=by omega
     have y2:(m:Int).toNat=m:=by omega
     have hmb:((m:Int)==a.length)=false:=by rw[beq_eq_false_iff_ne];omega
     have hieq:=zf7 (x:=(m:Int)) (y:=(a.length:Int)) (by rw[hmb])
     have M1:=hid (show m+1≤a.length from hml)
     obtain⟨s',n',c',q,_,_,_,g1⟩:=(HS1.out.below BW.out).get
     cases q
     obtain⟨ax,rfl,dx⟩:=g1 _ _ (zcr a m hml).1
     clear dx g1
     have hAm:m<(a.map PM.pl).length:=by rw[List.length_map];exact hml
     have hAd:(a.map PM.pl).drop m=(a[m]'hml).pl::(a.map PM.pl).drop (m+1):=by rw[List.drop_eq_getElem_cons hAm,List.getElem_map]
     obtain⟨xd0,xd1,xd2⟩:=zgu (HS1.out.below BW.out) hml
     generalize hy:b[j]'hjl=y at yd0 hBd
     generalize hx:a[m]'hml=x at xd0 xd1 xd2 hAd
     have HY:=hid hy
     have HX:=hid hx
     cases hlt:ltL y.n x.n with
     | true=>
      have hsl:∀w,(binOp .lss 9 (.string (bs y.n)) (.string (bs x.n))).run Tryz.prog w=.ok (.bool true) w:=fun w=>by rw[yc2,hlt]
      have hsb:Op.bytesLess (bs y.n).toList (bs x.n).toList=true:=by rw[za4,za4];exact hlt
      have NXT:=hid (show D++(zch (a.map PM.pl) [y.pl]++zct (a.map PM.pl) (b.map PM.pl) ((a.map PM.pl).drop m) ((b.map PM.pl).drop (j+1)))=P by
       have h:=HI.out
       rw[hAd,hBd,yjh _ _ _ _ hlt,←hAd] at h
       exact h)
      clear hx hy hAd hBd HI hlt
      go_wp2_with fail
      go_quiet (fail)
      go_wp2_with fail
      refine(FR.out y.n _ (zac BW.out _)).mono ?_
      rintro e wq⟨rfl,hwq⟩
      have BQ:=hid (show Below w.heap.size w wq by rw[hwq];first|exact BW.out|exact zac BW.out _)
      have OQ:=hid (show wq.ownsRow (g+1) 81 2 (.slice va D.length vc) D.length (zcw D) by rw[hwq];exact HO.out)
      have ZQ:=hid (show wq.heap[w.heap.size]?=some (.cells #[.int .i64 0,.int .i64 0] 64 (0,0)) by rw[hwq];exact HZ.out)
      have HSQ:=hid (show g+1≤wq.heap.size by rw[hwq];exact HSZ.out)
      have PQ:=hid (PlS.mk OQ.out ZQ.out BQ.out HSQ.out)
      clear hwq
      obtain⟨e0,_⟩:=zgu (HS2.out.below BQ.out) hjl
      rw[HY.out] at e0
      rcases zif a y.n 0 with⟨h1,h2⟩|⟨jj,hjj,h1,h2⟩
      ·rw[h1]
       have Y:=hid (show(D++[⟨zds,y.n⟩])++zct (a.map PM.pl) (b.map PM.pl) ((a.map PM.pl).drop m) ((b.map PM.pl).drop (j+1))=P by
        have h:=NXT.out
        rw[zpf (fun x hx=>by obtain⟨z,hz,rfl⟩:=List.mem_map.1 hx;exact h2 z hz)] at h
        rw[List.append_assoc];exact h)
       clear h1 h2 NXT
       go_wp2_with (at_builtin;refine zca rfl (.tmp 60) (.tmp 67) rfl rfl PQ.out HG.out (by omega) (q:=⟨zds,y.n⟩) (by simp only[zim]) rfl ?_;intro v' w5 HO5 Z5 B5 S5)
       go_roundw
       case rel=>exact⟨j+1,D++[⟨zds,y.n⟩],by go_num,JJ.out,Y.out,HO5,Z5,B5,S5⟩
       case measure=>simp[intOf];omega
      ·rw[h1,Int.zero_add]
       have hjn:¬((jj:Int)<0):=by omega
       have Y:=hid (show D++zct (a.map PM.pl) (b.map PM.pl) ((a.map PM.pl).drop m) ((b.map PM.pl).drop (j+1))=P by
        have h:=NXT.out
        rw[ztp ⟨(a[jj]'hjj).pl,List.mem_map.2 ⟨_,List.getElem_mem hjj,rfl⟩,(show(a[jj]'hjj).pl.n=y.pl.n from h2)⟩] at h
        exact h)
       clear h1 h2 NXT
       go_wp2_with fail
       go_roundw
       case rel=>exact⟨j+1,D,by go_num,JJ.out,Y.out,OQ.out,ZQ.out,BQ.out,HSQ.out⟩
       case measure=>simp[intOf];omega
     | false=>
      have hsl:∀w,(binOp .lss 9 (.string (bs y.n)) (.string (bs x.n))).run Tryz.prog w=.ok (.bool false) w:=fun w=>by rw[yc2,hlt]
      have hsb:Op.bytesLess (bs y.n).toList (bs x.n).toList=false:=by rw[za4,za4];exact hlt
      have NXT:=hid (show D++([zge (b.map PM.pl) x.pl]++zct (a.map PM.pl) (b.map PM.pl) ((a.map PM.pl).drop (m+1)) ((b.map PM.pl).drop j))=P by
       have h:=HI.out
       rw[hAd,hBd,yjj _ _ _ _ hlt,←hBd] at h
       exact h)
      clear hx hy hAd hBd HI hlt
      go_wp2_with fail
      go_quiet (fail)
      go_wp2_with fail
      refine(FT.out x.n _ (zac BW.out _)).mono ?_
      rintro e wq⟨rfl,hwq⟩
      have BQ:=hid (show Below w.heap.size w wq by rw[hwq];first|exact BW.out|exact zac BW.out _)
      have OQ:=hid (show wq.ownsRow (g+1) 81 2 (.slice va D.length vc) D.length (zcw D) by rw[hwq];exact HO.out)
      have ZQ:=hid (show wq.heap[w.heap.size]?=some (.cells #[.int .i64 0,.int .i64 0] 64 (0,0)) by rw[hwq];exact HZ.out)
      have HSQ:=hid (show g+1≤wq.heap.size by rw[hwq];exact HSZ.out)
      have PQ:=hid (PlS.mk OQ.out ZQ.out BQ.out HSQ.out)
      clear hwq
      obtain⟨xe0,xe1,xe2⟩:=zgu (HS1.out.below BQ.out) hml
      rw[HX.out] at xe0 xe1 xe2
      rcases zif b x.n 0 with⟨h1,h2⟩|⟨jj,hjj,h1,h2⟩
      ·rw[h1]
       have Y:=hid (show(D++[⟨zaz,x.n⟩])++zct (a.map PM.pl) (b.map PM.pl) ((a.map PM.pl).drop (m+1)) ((b.map PM.pl).drop j)=P by
        have h:=NXT.out
        rw[KN.out x h2] at h
        rw[List.append_assoc];exact h)
       clear h1 h2 NXT
       go_wp2_with (at_builtin;refine zca rfl (.tmp 108) (.tmp 116) rfl rfl PQ.out HG.out (by omega) (q:=⟨zaz,x.n⟩) (by simp only[zdw]) rfl ?_;intro v' w5 HO5 Z5 B5 S5)
       go_roundw
       case rel=>exact⟨m+1,j,D++[⟨zaz,x.n⟩],by go_num,M1.out,rfl,hj,Y.out,HO5,Z5,B5,S5⟩
       case measure=>simp[intOf];omega
      ·rw[h1,Int.zero_add]
       have hjn:((0:Int)≤jj):=by omega
       have hjk:(jj:Int).toNat=jj:=by omega
       have hjb:(jj:Int)<b.length:=by omega
       obtain⟨s',n',c',q,_,_,_,g1⟩:=(HS2.out.below BQ.out).get
       cases q
       obtain⟨ae,hae,dx⟩:=g1 _ _ (zcr b jj hjj).1
       cases hae
       clear dx g1
       obtain⟨ye0,ye1,ye2⟩:=zgu (HS2.out.below BQ.out) hjj
       have KIND:=KS.out x (by rw[←HX.out];exact List.getElem_mem hml) jj hjj h2
       generalize b[jj]'hjj=z at ye0 ye1 ye2 KIND
       by_cases hN:z.N=x.N
       ·have hNb:(z.N==x.N)=true:=by rw[beq_iff_eq];exact hN
        have hNr:=zf6 (x:=z.N) (y:=x.N) (by rw[hNb])
        by_cases hSS:z.S=x.S
        ·have hSb:(z.S==x.S)=true:=by rw[beq_iff_eq];exact hSS
         have hSr:=zf6 (x:=z.S) (y:=x.S) (by rw[hSb])
         rw[if_pos ⟨hN,hSS⟩] at KIND
         have Y:=hid (show(D++[⟨zg7,x.n⟩])++zct (a.map PM.pl) (b.map PM.pl) ((a.map PM.pl).drop (m+1)) ((b.map PM.pl).drop j)=P by
          have h:=NXT.out
          rw[KIND] at h
          rw[List.append_assoc];exact h)
         clear h1 h2 NXT KIND hN hSS
         go_wp2_with fail
         go_quiet (fail)
         go_wp2_with (at_builtin;refine zca rfl (.tmp 108) (.tmp 116) rfl rfl (PQ.out.drewN _) HG.out (by omega) (q:=⟨zg7,x.n⟩) (by simp only[zkc]) rfl ?_;intro v' w5 HO5 Z5 B5 S5)
         go_roundw
         case rel=>exact⟨m+1,j,D++[⟨zg7,x.n⟩],by go_num,M1.out,rfl,hj,Y.out,HO5,Z5,B5,S5⟩
         case measure=>simp[intOf];omega
        ·have hSb:(z.S==x.S)=false:=by rw[beq_eq_false_iff_ne];exact hSS
         have hSr:=zf7 (x:=z.S) (y:=x.S) (by rw[hSb])
         rw[if_neg (fun h=>hSS h.2)] at KIND
         have Y:=hid (show(D++[⟨zaz,x.n⟩])++zct (a.map PM.pl) (b.map PM.pl) ((a.map PM.pl).drop (m+1)) ((b.map PM.pl).drop j)=P by
          have h:=NXT.out
          rw[KIND] at h
          rw[List.append_assoc];exact h)
         clear h1 h2 NXT KIND hN hSS
         go_wp2_with fail
         go_quiet (fail)
         go_wp2_with (at_builtin;refine zca rfl (.tmp 108) (.tmp 116) rfl rfl (PQ.out.drewN _) HG.out (by omega) (q:=⟨zaz,x.n⟩) (by simp only[zdw]) rfl ?_;intro v' w5 HO5 Z5 B5 S5)
         go_roundw
         case rel=>exact⟨m+1,j,D++[⟨zaz,x.n⟩],by go_num,M1.out,rfl,hj,Y.out,HO5,Z5,B5,S5⟩
         case measure=>simp[intOf];omega
       ·have hNb:(z.N==x.N)=false:=by rw[beq_eq_false_iff_ne];exact hN
        have hNr:=zf7 (x:=z.N) (y:=x.N) (by rw[hNb])
        rw[if_neg (fun h=>hN h.1)] at KIND
        have Y:=hid (show(D++[⟨zaz,x.n⟩])++zct (a.map PM.pl) (b.map PM.pl) ((a.map PM.pl).drop (m+1)) ((b.map PM.pl).drop j)=P by
         have h:=NXT.out
         rw[KIND] at h
         rw[List.append_assoc];exact h)
        clear h1 h2 NXT KIND hN
        go_wp2_with fail
        go_quiet (fail)
        go_wp2_with (at_builtin;refine zca rfl (.tmp 108) (.tmp 116) rfl rfl (PQ.out.drewN _) HG.out (by omega) (q:=⟨zaz,x.n⟩) (by simp only[zdw]) rfl ?_;intro v' w5 HO5 Z5 B5 S5)
        go_roundw
        case rel=>exact⟨m+1,j,D++[⟨zaz,x.n⟩],by go_num,M1.out,rfl,hj,Y.out,HO5,Z5,B5,S5⟩
        case measure=>simp[intOf];omega
   ·have hjI:¬(j:Int)<b.length:=by omega
    have hlss:=yc1 (x:=(j:Int)) (y:=(b.length:Int)) (by rw[decide_eq_false hjI])
    have hBn:(b.map PM.pl).drop j=[]:=zno (by rw[List.length_map];omega)
    by_cases hma:m=a.length
    ·subst hma
     have hmb:((a.length:Int)==a.length)=true:=by rw[beq_iff_eq]
     have hieq:=zf6 (x:=(a.length:Int)) (y:=(a.length:Int)) (by rw[hmb])
     have hD:D=P:=by
      have h:=HI.out
      rw[zno (l:=a.map PM.pl) (by rw[List.length_map];omega),hBn,yeg,List.append_nil] at h
      exact h
     subst hD
     clear HI hBn
     go_wp2_with fail
     go_quiet (fail)
     go_wp2_with fail
     refine(zhg _).mono ?_
     rintro e w8⟨rfl,b8⟩
     have hz8:w8.heap[w.heap.size]?=some (.cells #[.int .i64 0,.int .i64 0] 64 (0,0)):=(b8.block w.heap.size (lt_of_block HZ.out)).trans HZ.out
     have bb8:=((zaa (zac BW.out _) b8).setCell (p:=⟨w.heap.size,0,none⟩) (Nat.le_refl _) (.int .i64 0)).setCell (p:=⟨w.heap.size,1,none⟩) (Nat.le_refl _) (.int .i64 (-1))
     have KB:(Value.slice va D.length vc).ownBlock≠some w.heap.size:=fun e=>by have:=(HO.out.lt _ e).1;have:=HG.out;omega
     have O8:w8.ownsRow w.heap.size 81 2 (.slice va D.length vc) D.length (zcw D):=za1 (zad (show(World.drewN _ _).ownsRow (g+1) 81 2 (.slice va D.length vc) D.length (zcw D) from HO.out) b8) (by have:=HG.out;omega)
     have O9:=hid (ownsRow_setCell_other (ownsRow_setCell_other O8 (a:=⟨w.heap.size,0,none⟩) KB (.int .i64 0)) (a:=⟨w.heap.size,1,none⟩) KB (.int .i64 (-1)))
     have f0:w8.frozen? ⟨w.heap.size,0,none⟩=false:=by simp[World.frozen?,hz8]
     have f1:w8.frozen? ⟨w.heap.size,1,none⟩=false:=by simp[World.frozen?,hz8]
     have e0:w8.cell? ⟨w.heap.size,0,none⟩=some (.int .i64 0):=by simp[World.cell?,hz8]
     have e1:w8.cell? ⟨w.heap.size,1,none⟩=some (.int .i64 0):=by simp[World.cell?,hz8]
     obtain⟨r0,r1⟩:=zut hz8 (.int .i64 0) (.int .i64 (-1))
     clear b8 hz8 KB O8
     go_wp2_with fail
     refine bodyPost_ret (by simp[results,Tryz.results28,go_sem,r0,r1];try rfl) rfl ?_
     exact⟨_,rfl,O9.out,bb8⟩
    ·have hml:m<a.length:=by omega
     have hmlI:(m:Int)<a.length:=by omega
     have y1:(0:Int)≤m:=by omega
     have y2:(m:Int).toNat=m:=by omega
     have hmb:((m:Int)==a.length)=false:=by rw[beq_eq_false_iff_ne];omega
     have hieq:=zf7 (x:=(m:Int)) (y:=(a.length:Int)) (by rw[hmb])
     have M1:=hid (show m+1≤a.length from hml)
     obtain⟨s',n',c',q,_,_,_,g1⟩:=(HS1.out.below BW.out).get
     cases q
     obtain⟨ax,rfl,dx⟩:=g1 _ _ (zcr a m hml).1
     clear dx g1
     have hAm:m<(a.map PM.pl).length:=by rw[List.length_map];exact hml
     have hAd:(a.map PM.pl).drop m=(a[m]'hml).pl::(a.map PM.pl).drop (m+1):=by rw[List.drop_eq_getElem_cons hAm,List.getElem_map]
     obtain⟨xd0,xd1,xd2⟩:=zgu (HS1.out.below BW.out) hml
     have NXT:=hid (show D++([zge (b.map PM.pl) (a[m]'hml).pl]++zct (a.map PM.pl) (b.map PM.pl) ((a.map PM.pl).drop (m+1)) ((b.map PM.pl).drop j))=P by
      have h:=HI.out
      rw[hAd,hBn,yab] at h
      rw[hBn];exact h)
     generalize hx:a[m]'hml=x at xd0 xd1 xd2 NXT
     have HX:=hid hx
     clear hx hAd hBn HI
     go_wp2_with fail
     go_quiet (fail)
     go_wp2_with fail
     refine(FT.out x.n _ (zac BW.out _)).mono ?_
     rintro e wq⟨rfl,hwq⟩
     have BQ:=hid (show Below w.heap.size w wq by rw[hwq];first|exact BW.out|exact zac BW.out _)
     have OQ:=hid (show wq.ownsRow (g+1) 81 2 (.slice va D.length vc) D.length (zcw D) by rw[hwq];exact HO.out)
     have ZQ:=hid (show wq.heap[w.heap.size]?=some (.cells #[.int .i64 0,.int .i64 0] 64 (0,0)) by rw[hwq];exact HZ.out)
     have HSQ:=hid (show g+1≤wq.heap.size by rw[hwq];exact HSZ.out)
     have PQ:=hid (PlS.mk OQ.out ZQ.out BQ.out HSQ.out)
     clear hwq
     obtain⟨xe0,xe1,xe2⟩:=zgu (HS1.out.below BQ.out) hml
     rw[HX.out] at xe0 xe1 xe2
     rcases zif b x.n 0 with⟨h1,h2⟩|⟨jj,hjj,h1,h2⟩
     ·rw[h1]
      have Y:=hid (show(D++[⟨zaz,x.n⟩])++zct (a.map PM.pl) (b.map PM.pl) ((a.map PM.pl).drop (m+1)) ((b.map PM.pl).drop j)=P by
       have h:=NXT.out
       rw[KN.out x h2] at h
       rw[List.append_assoc];exact h)
      clear h1 h2 NXT
      go_wp2_with (at_builtin;refine zca rfl (.tmp 108) (.tmp 116) rfl rfl PQ.out HG.out (by omega) (q:=⟨zaz,x.n⟩) (by simp only[zdw]) rfl ?_;intro v' w5 HO5 Z5 B5 S5)
      go_roundw
      case rel=>exact⟨m+1,j,D++[⟨zaz,x.n⟩],by go_num,M1.out,rfl,hj,Y.out,HO5,Z5,B5,S5⟩
      case measure=>simp[intOf];omega
     ·rw[h1,Int.zero_add]
      have hjn:((0:Int)≤jj):=by omega
      have hjk:(jj:Int).toNat=jj:=by omega
      have hjb:(jj:Int)<b.length:=by omega
      obtain⟨s',n',c',q,_,_,_,g1⟩:=(HS2.out.below BQ.out).get
      cases q
      obtain⟨ae,hae,dx⟩:=g1 _ _ (zcr b jj hjj).1
      cases hae
      clear dx g1
      obtain⟨ye0,ye1,ye2⟩:=zgu (HS2.out.below BQ.out) hjj
      have KIND:=KS.out x (by rw[←HX.out];exact List.getElem_mem hml) jj hjj h2
      generalize b[jj]'hjj=z at ye0 ye1 ye2 KIND
      by_cases hN:z.N=x.N
      ·have hNb:(z.N==x.N)=true:=by rw[beq_iff_eq];exact hN
       have hNr:=zf6 (x:=z.N) (y:=x.N) (by rw[hNb])
       by_cases hSS:z.S=x.S
       ·have hSb:(z.S==x.S)=true:=by rw[beq_iff_eq];exact hSS
        have hSr:=zf6 (x:=z.S) (y:=x.S) (by rw[hSb])
        rw[if_pos ⟨hN,hSS⟩] at KIND
        have Y:=hid (show(D++[⟨zg7,x.n⟩])++zct (a.map PM.pl) (b.map PM.pl) ((a.map PM.pl).drop (m+1)) ((b.map PM.pl).drop j)=P by
         have h:=NXT.out
         rw[KIND] at h
         rw[List.append_assoc];exact h)
        clear h1 h2 NXT KIND hN hSS
        go_wp2_with fail
        go_quiet (fail)
        go_wp2_with (at_builtin;refine zca rfl (.tmp 108) (.tmp 116) rfl rfl (PQ.out.drewN _) HG.out (by omega) (q:=⟨zg7,x.n⟩) (by simp only[zkc]) rfl ?_;intro v' w5 HO5 Z5 B5 S5)
        go_roundw
        case rel=>exact⟨m+1,j,D++[⟨zg7,x.n⟩],by go_num,M1.out,rfl,hj,Y.out,HO5,Z5,B5,S5⟩
        case measure=>simp[intOf];omega
       ·have hSb:(z.S==x.S)=false:=by rw[beq_eq_false_iff_ne];exact hSS
        have hSr:=zf7 (x:=z.S) (y:=x.S) (by rw[hSb])
        rw[if_neg (fun h=>hSS h.2)] at KIND
        have Y:=hid (show(D++[⟨zaz,x.n⟩])++zct (a.map PM.pl) (b.map PM.pl) ((a.map PM.pl).drop (m+1)) ((b.map PM.pl).drop j)=P by
         have h:=NXT.out
         rw[KIND] at h
         rw[List.append_assoc];exact h)
        clear h1 h2 NXT KIND hN hSS
        go_wp2_with fail
        go_quiet (fail)
        go_wp2_with (at_builtin;refine zca rfl (.tmp 108) (.tmp 116) rfl rfl (PQ.out.drewN _) HG.out (by omega) (q:=⟨zaz,x.n⟩) (by simp only[zdw]) rfl ?_;intro v' w5 HO5 Z5 B5 S5)
        go_roundw
        case rel=>exact⟨m+1,j,D++[⟨zaz,x.n⟩],by go_num,M1.out,rfl,hj,Y.out,HO5,Z5,B5,S5⟩
        case measure=>simp[intOf];omega
      ·have hNb:(z.N==x.N)=false:=by rw[beq_eq_false_iff_ne];exact hN
       have hNr:=zf7 (x:=z.N) (y:=x.N) (by rw[hNb])
       rw[if_neg (fun h=>hN h.1)] at KIND
       have Y:=hid (show(D++[⟨zaz,x.n⟩])++zct (a.map PM.pl) (b.map PM.pl) ((a.map PM.pl).drop (m+1)) ((b.map PM.pl).drop j)=P by
        have h:=NXT.out
        rw[KIND] at h
        rw[List.append_assoc];exact h)
       clear h1 h2 NXT KIND hN
       go_wp2_with fail
       go_quiet (fail)
       go_wp2_with (at_builtin;refine zca rfl (.tmp 108) (.tmp 116) rfl rfl (PQ.out.drewN _) HG.out (by omega) (q:=⟨zaz,x.n⟩) (by simp only[zdw]) rfl ?_;intro v' w5 HO5 Z5 B5 S5)
       go_roundw
       case rel=>exact⟨m+1,j,D++[⟨zaz,x.n⟩],by go_num,M1.out,rfl,hj,Y.out,HO5,Z5,B5,S5⟩
       case measure=>simp[intOf];omega
end Go.Proofs.YtakhkcaihhpehaaGreatDoor
