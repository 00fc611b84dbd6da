/- Texts of one proof, one behind the other: Chg, Row2, IxPlain, DelFile, Buf, RawMap, ScrCmds. -/
import Derived.Test.YtakhkcaihhpehaaGreatDoorB04
import Derived.Deep.RegionHeld3
import Derived.Deep.RegionWith
import Derived.Carry
import Derived.Test.YtakhkcaihhpehaaGreatDoorB06
import Derived.Laws.Rows
import Derived.Lib.SliceRun
import Derived.Lib.AppendStr
import Derived.Lib.ConvBytes
import Derived.Lib.AtoiErrMem
import Derived.WideMake
import Derived.Test.YtakhkcaihhpehaaGreatDoorB02
import Derived.Test.YtakhkcaihhpehaaGreatDoorB01
import Derived.Test.YtakhkcaihhpehaaGreatDoorChecked
namespace Go.Proofs.YtakhkcaihhpehaaGreatDoor
open Go.RowKit
open Lib (hid)
set_option linter.unusedVariables false
set_option maxRecDepth 100000
set_option maxHeartbeats 51200000
theorem zag(w:World)(o:Obj):Below w.heap.size w (w.alloc o):=(Below.refl _ w).alloc (Nat.le_refl _) o
structure Chg(w w':World)(S:Nat→Prop):Prop where
 os:w'.os=w.os
 tape:w'.tape=w.tape
 output:w'.output=w.output
 size:w.heap.size≤w'.heap.size
 block:∀k,k<w.heap.size→¬S k→w'.heap[k]?=w.heap[k]?
theorem Chg.refl(w:World)(S:Nat→Prop):Chg w w S:=⟨rfl,rfl,rfl,Nat.le_refl _,fun _ _ _=>rfl⟩
theorem Chg.trans{a b c:World}{S T:Nat→Prop}(h:Chg a b S)(k:Chg b c T)(hs:∀x,x<a.heap.size→T x→S x):Chg a c S:=
 ⟨k.os.trans h.os,k.tape.trans h.tape,k.output.trans h.output,Nat.le_trans h.size k.size,fun x hx hn=>(k.block x (Nat.lt_of_lt_of_le hx h.size) (fun t=>hn (hs x hx t))).trans (h.block x hx hn)⟩
theorem Chg.more{a b:World}{S T:Nat→Prop}(h:Chg a b S)(hs:∀x,x<a.heap.size→S x→T x):Chg a b T:=
 ⟨h.os,h.tape,h.output,h.size,fun x hx hn=>h.block x hx (fun t=>hn (hs x hx t))⟩
theorem Chg.of_below{a b:World}(h:Below a.heap.size a b)(S:Nat→Prop):Chg a b S:=⟨h.os,h.tape,h.output,h.size,fun x hx _=>h.block x hx⟩
theorem Chg.below{w a b:World}{S:Nat→Prop}(h:Chg a b S)(hb:Below w.heap.size w a)(hs:∀x,S x→w.heap.size≤x):Below w.heap.size w b:=
 ⟨h.os.trans hb.os,h.tape.trans hb.tape,h.output.trans hb.output,Nat.le_trans hb.size h.size,fun x hx=>(h.block x (Nat.lt_of_lt_of_le hx hb.size) (fun t=>by have:=hs x t;omega)).trans (hb.block x hx)⟩
theorem Chg.of_grown{a b:World}{x:Nat}(h:a.grownBy b (some x)):Chg a b (fun y=>y=x):=⟨h.os,h.tape,h.output,h.size,fun k hk hn=>h.block k hk (fun e=>hn (Option.some.inj e))⟩
theorem Chg.set{a b:World}{S:Nat→Prop}(h:Chg a b S)(p:Addr)(hp:S p.block∨a.heap.size≤p.block)(u:Value):Chg a (b.setCell p u) S:=
 ⟨h.os,h.tape,h.output,by rw[World.size_setCell];exact h.size,fun x hx hn=>(Below.heap_setCell _ _ _ _ (by intro e;subst e;rcases hp with hp|hp;exact hn hp;omega)).trans (h.block x hx hn)⟩
theorem Chg.alloc{a b:World}{S:Nat→Prop}(h:Chg a b S)(o:Obj):Chg a (b.alloc o) S:=
 ⟨h.os,h.tape,h.output,by have:=h.size;simp;omega,fun x hx hn=>((zag b o).block x (Nat.lt_of_lt_of_le hx h.size)).trans (h.block x hx hn)⟩
theorem Chg.drew{a b:World}{S:Nat→Prop}(h:Chg a b S):Chg a b.drew S:=⟨h.os,h.tape,h.output,h.size,h.block⟩
theorem ze1{w:World}{base:Nat}{e:TypeId}{size:Nat}{v:Value}{n:Nat}{xs:List Value}(h:w.ownsRow base e size v n xs){j:Nat}(hj:v.ownBlock=some j):base≤j:=by
 obtain⟨_,h2⟩:=h
 rcases h2 with⟨rfl,h2⟩|⟨g,cap,cur,hv,hg,_⟩
 ·simp[Value.ownBlock] at hj
 ·subst hv;simp[Value.ownBlock] at hj;omega
theorem zei{w w':World}{base:Nat}{e:TypeId}{size:Nat}{v:Value}{n:Nat}{xs:List Value}{S:Nat→Prop}(h:w.ownsRow base e size v n xs)(hc:Chg w w' S)(hs:∀x,S x→x<base):w'.ownsRow base e size v n xs:=by
 obtain⟨h1,h2⟩:=h
 refine⟨h1,?_⟩
 rcases h2 with h2|⟨g,cap,cur,hv,hg,hh,h3⟩
 ·exact .inl h2
 ·exact .inr ⟨g,cap,cur,hv,hg,(hc.block g (lt_of_block hh) (fun t=>by have:=hs g t;omega)).trans hh,h3⟩
def zi9(v:Value):Nat→Prop:=fun b=>v.ownBlock=some b
theorem zgw:(Tryz.prog.info? 9).map (fun i=>(i.zero,i.size,i.bytes))=some (some (.string ⟨#[]⟩),1,16):=by kernel_rfl
def lenOf:Value→Nat
 | .slice _ n _=>n
 | _=>0
section
variable{α:Type}(f g:α→Value)
def zip(l:List α):List Value:=l.flatMap fun x=>[f x,g x]
theorem zw3:zip f g []=[]:=rfl
theorem zf8(x:α)(l:List α):zip f g (x::l)=[f x,g x]++zip f g l:=rfl
theorem zgt(l m:List α):zip f g (l++m)=zip f g l++zip f g m:=by unfold zip;exact List.flatMap_append
theorem zll(l:List α):(zip f g l).length=l.length * 2:=by
 induction l with
 | nil=>rfl
 | cons k l ih=>rw[zf8,List.length_append,ih];simp;omega
theorem zgs(l:List α)(k:Nat)(h:k<l.length):(zip f g l)[k * 2]?=some (f l[k])∧(zip f g l)[k * 2+1]?=some (g l[k]):=by
 induction l generalizing k with
 | nil=>simp at h
 | cons o l ih=>
  rw[zf8]
  match k with
  | 0=>exact⟨rfl,rfl⟩
  | k+1=>
   obtain⟨h1,h2⟩:=ih k (by simpa using h)
   refine⟨?_,?_⟩
   ·rw[show(k+1) * 2=2+k * 2 by omega];rw[List.getElem?_append_right (by simp)];simpa using h1
   ·rw[show(k+1) * 2+1=2+(k * 2+1) by omega];rw[List.getElem?_append_right (by simp)];simpa using h2
theorem zw2(l:List α)(k:Nat)(x:α):((zip f g l).set (k * 2) (f x)).set (k * 2+1) (g x)=zip f g (l.set k x):=by
 induction l generalizing k with
 | nil=>rfl
 | cons o l ih=>
  rw[zf8]
  match k with
  | 0=>rfl
  | k+1=>
   rw[List.set_cons_succ,zf8,←ih k,show(k+1) * 2+1=(k * 2+1)+2 by omega,show(k+1) * 2=k * 2+2 by omega]
   rfl
theorem zmb(l:List α)(k:Nat):(zip f g l).take (k * 2)=zip f g (l.take k):=by
 induction l generalizing k with
 | nil=>simp[zw3]
 | cons o l ih=>
  match k with
  | 0=>simp[zw3]
  | k+1=>
   rw[List.take_succ_cons,zf8,zf8,←ih k,show(k+1) * 2=k * 2+2 by omega]
   rfl
theorem zk3(h:∀x,(f x).oneCell'=true∧(g x).oneCell'=true)(l:List α):∀u∈zip f g l,u.oneCell'=true:=by
 intro u hu
 obtain⟨x,_,hx⟩:=List.mem_flatMap.1 hu
 simp at hx
 rcases hx with rfl|rfl
 ·exact(h x).1
 ·exact(h x).2
theorem zko{w:World}{base g0 cap n:Nat}{e:TypeId}{l:List α}(h:w.ownsRow base e 2 (.slice (some ⟨g0,0,none⟩) n cap) n (zip f g l))(k:Nat)(x:α):
  ((w.setCell ⟨g0,k * 2,none⟩ (f x)).setCell ⟨g0,k * 2+1,none⟩ (g x)).ownsRow base e 2 (.slice (some ⟨g0,0,none⟩) n cap) n (zip f g (l.set k x)):=by
 have h1:=(h.stored (k * 2) (f x)).1
 have h2:=(h1.stored (k * 2+1) (g x)).1
 rw[zw2] at h2
 exact h2
theorem yn1{w:World}{base g0 cap n k size:Nat}{e:TypeId}{xs:List Value}(h:w.ownsRow base e size (.slice (some ⟨g0,0,none⟩) n cap) n xs)(hk:k≤n):w.ownsRow base e size (.slice (some ⟨g0,0,none⟩) k cap) k (xs.take (k * size)):=by
 obtain⟨h1,h2⟩:=h
 rcases h2 with⟨h2,_⟩|⟨g',cap',cur,hv,hg,hh,h3,h4,h5,h6⟩
 ·cases h2
 ·cases hv
  refine⟨by rw[List.length_take,h1];exact Nat.min_eq_left (Nat.mul_le_mul_right _ hk),.inr ⟨g0,cap,cur,rfl,hg,hh,by omega,h4,h5,?_⟩⟩
  rw[←h6,List.take_take,Nat.min_eq_left (Nat.mul_le_mul_right _ hk)]
theorem zji{P:Program}{w:World}{base g0 cap n k size:Nat}{t e:TypeId}{z:Value}{xs:List Value}(h:w.ownsRow base e size (.slice (some ⟨g0,0,none⟩) n cap) n xs)(hk:k≤n)(hs:0<size)
  (ht:P.underlying t=some (.slice e)) (hv:(zeroValue e).run P w=.ok z w) (hz:z.cells.size=size) (h1:∀u∈z.cells.toList,u.oneCell'=true) :
  ∃w',(∀ty,(Builtin.clear_ #[t] ty #[.slice (some ⟨g0,k * size,none⟩) (n - k) (cap - k)]).run P w=.ok (.tuple #[]) w')∧w'.ownsRow base e size (.slice (some ⟨g0,0,none⟩) k cap) k (xs.take (k * size))∧w.grownBy w' (some g0):=by
 by_cases hnk:n - k=0
 ·have:n=k:=by omega
  subst this
  refine⟨w,?_,yn1 h (Nat.le_refl _),⟨rfl,rfl,rfl,Nat.le_refl _,fun _ _ _=>rfl⟩⟩
  intro ty
  simp[Builtin.clear_,run_underlying ht]
 ·obtain⟨h1',h2⟩:=h
  rcases h2 with⟨h2,_⟩|⟨g',cap',cur,hv',hg,hh,h3,h4,h5,h6⟩
  ·cases h2
  ·cases hv'
   have hzl:(Builtin.zeroCells z.cells (n - k)).size=(n - k) * size:=by rw[size_zeroCells,hz]
   have h3m:=Nat.mul_le_mul_right size h3
   have hkm:=Nat.mul_le_mul_right size hk
   have hsub:(n - k) * size=n * size - k * size:=Nat.sub_mul _ _ _
   have hst:=run_storeCells_at P g0 (k * size) e (Builtin.zeroCells z.cells (n - k)).toList 0 cur w hh (by rw[Array.length_toList,hzl,h5];omega) (by
    intro u hu
    have hu':=Array.mem_toList_iff.1 hu
    simp only[Builtin.zeroCells,Array.mem_map,Array.mem_range] at hu'
    obtain⟨i,hi,rfl⟩:=hu'
    have hlt:i % z.cells.size<z.cells.size:=Nat.mod_lt _ (by rw[hz];exact hs)
    rw[getElem!_pos z.cells _ hlt]
    exact h1 _ (by simp))
   obtain⟨m,hm⟩:∃m,n - k=m+1:=⟨n - k - 1,by omega⟩
   simp only[Nat.add_zero] at hst
   generalize hR:(cur.toList.take (k * size)++(Builtin.zeroCells z.cells (n - k)).toList++cur.toList.drop (k * size+(Builtin.zeroCells z.cells (n - k)).toList.length)).toArray=R at hst
   refine⟨w.setRow g0 R,?_,⟨by rw[List.length_take,h1'];exact Nat.min_eq_left hkm,.inr ⟨g0,cap,R,rfl,hg,setRow_heap w g0 cur _ e _ hh,by omega,h4,?_,?_⟩⟩,⟨rfl,rfl,rfl,by simp,fun x _ hx=>setRow_other w g0 x _ (fun e=>hx (by rw[e]))⟩⟩
   ·intro ty
    rw[hm] at hst ⊢
    simp[Builtin.clear_,run_underlying ht,hv,hst]
   ·rw[←hR]
    simp only[List.size_toArray,List.length_append,List.length_take,List.length_drop,Array.length_toList,hzl]
    omega
   ·rw[←hR,List.append_assoc,List.take_left' (by rw[List.length_take,Array.length_toList];omega),←h6,List.take_take,Nat.min_eq_left hkm]
end
theorem zan{w w':World}{base:Nat}{e:TypeId}{size:Nat}{v:Value}{n:Nat}{xs:List Value}{S:Nat→Prop}(h:w.ownsRow base e size v n xs)(hc:Chg w w' S)(hs:∀x,v.ownBlock=some x→¬S x):w'.ownsRow base e size v n xs:=by
 obtain⟨h1,h2⟩:=h
 refine⟨h1,?_⟩
 rcases h2 with h2|⟨g,cap,cur,hv,hg,hh,h3⟩
 ·exact .inl h2
 ·subst hv
  exact .inr ⟨g,cap,cur,rfl,hg,(hc.block g (lt_of_block hh) (hs g rfl)).trans hh,h3⟩
section
variable{α:Type}
def ixI:Nat→(α→Bool)→List α→Int
 | _,_,[]=>-1
 | k,p,x::l=>if p x=true then k else ixI (k+1) p l
variable{p:α→Bool}{l:List α}{k:Nat}
theorem zs5(p:α→Bool)(l:List α):ixI 0 p l=ixI 0 p (l.drop 0):=rfl
theorem yfp(h:k<l.length)(hp:p l[k]=true):ixI k p (l.drop k)=(k:Int):=by rw[List.drop_eq_getElem_cons h,ixI,if_pos hp]
theorem ymq(h:k<l.length)(hp:p l[k]=false):ixI k p (l.drop k)=ixI (k+1) p (l.drop (k+1)):=by rw[List.drop_eq_getElem_cons h,ixI,if_neg (by simp[hp])]
theorem yfq(h:l.length≤k):ixI k p (l.drop k)=-1:=by rw[List.drop_of_length_le h];rfl
theorem yj9(p:α→Bool)(l:List α):∀k,(ixI k p l=-1∧∀x∈l,p x=false)∨∃j,∃h:j<l.length,ixI k p l=((k+j:Nat):Int)∧p l[j]=true∧∀x∈l.take j,p x=false:=by
 induction l with
 | nil=>intro k;exact .inl ⟨rfl,by simp⟩
 | cons x l ih=>
  intro k
  unfold ixI
  cases hp:p x with
  | true=>exact .inr ⟨0,by simp,by simp,by simpa using hp,by simp⟩
  | false=>
   rw[if_neg (by simp)]
   rcases ih (k+1) with⟨h1,h2⟩|⟨j,h,h1,h2,h3⟩
   ·refine .inl ⟨h1,fun y hy=>?_⟩
    rcases List.mem_cons.1 hy with rfl|hy
    ·exact hp
    ·exact h2 y hy
   ·refine .inr ⟨j+1,by simpa using h,by rw[h1];omega,by simpa using h2,fun y hy=>?_⟩
    rw[List.take_succ_cons] at hy
    rcases List.mem_cons.1 hy with rfl|hy
    ·exact hp
    ·exact h3 y hy
theorem zqx(p:α→Bool)(l:List α):(ixI 0 p l=-1∧∀x∈l,p x=false)∨∃j,∃h:j<l.length,ixI 0 p l=(j:Int)∧p l[j]=true∧∀x∈l.take j,p x=false:=by
 rcases yj9 p l 0 with h|⟨j,h,h1,h2⟩
 ·exact .inl h
 ·exact .inr ⟨j,h,by simpa using h1,h2⟩
theorem ztm{l:List α}{j:Nat}(h:j<l.length)(hp:p l[j]=true)(ha:∀x∈l.take j,p x=false):l.take j=(l.take (j+1)).filter (fun x=>!p x):=by
 rw[List.take_succ_eq_append_getElem h,List.filter_append,List.filter_eq_self.2 (fun x hx=>by rw[ha x hx];rfl)]
 simp[hp]
theorem yoy{l R:List α}{a b:Nat}(hR:R.length=l.length)(h:b<l.length)(hp:p l[b]=true)(ht:R.take a=(l.take b).filter (fun x=>!p x))(hd:R.drop b=l.drop b):
  R.take a=(l.take (b+1)).filter (fun x=>!p x)∧R.drop (b+1)=l.drop (b+1):=by
 refine⟨?_,by rw[←List.drop_drop,hd,List.drop_drop]⟩
 rw[ht,List.take_succ_eq_append_getElem h,List.filter_append]
 simp[hp]
theorem yoz{l R:List α}{a b:Nat}(hR:R.length=l.length)(hab:a<b)(h:b<l.length)(hp:p l[b]=false)(ht:R.take a=(l.take b).filter (fun x=>!p x))(hd:R.drop b=l.drop b):
  (R.set a l[b]).take (a+1)=(l.take (b+1)).filter (fun x=>!p x)∧(R.set a l[b]).drop (b+1)=l.drop (b+1):=by
 refine⟨?_,by rw[List.drop_set_of_lt (by omega),←List.drop_drop,hd,List.drop_drop]⟩
 rw[List.take_succ_eq_append_getElem (by rw[List.length_set];omega),List.take_set_of_le (Nat.le_refl _),ht,List.take_succ_eq_append_getElem h,List.filter_append]
 simp[hp]
end
attribute [irreducible] ixI
theorem yh4(w:World):(zeroValue 126).run Tryz.prog w=.ok (.agg #[.string ⟨#[]⟩,.string ⟨#[]⟩]) w:=by kernel_rfl
theorem yar{α:Type}(f g:α→Value)(p:α→Bool)(fn:Nat)(lb:Array Value)(eg:∀args w,(callFunc fn args).run Tryz.prog w=.ok (.enter fn args) w)(s:Option Addr)(n c:Nat)(l:List α)(w:World)
  (hl:SliceIs w (.slice s n c) 2 (zip f g l)) (hp:∀(W:World)(x:α),x∈l→Below w.heap.size w W→Calls Tryz.prog fn (#[.agg #[f x,g x]]++lb) W fun e w'=>e=.returned (.bool (p x))∧Below W.heap.size W w') :
  Calls Tryz.prog 169 #[.slice s n c,.func (.func fn) #[] lb] w fun e w'=>e=.returned (.int .i64 (ixI 0 p l))∧Below w.heap.size w w':=by
 have hlen:l.length=n∧c≤maxLen∧n≤c:=by
  obtain⟨s0',n0',c0',e1,e2,e3,e4,_⟩:=hl.get
  cases e1
  rw[zll] at e2
  exact⟨by omega,e4,e3⟩
 obtain⟨rfl,hc0,hc1⟩:=hlen
 unfold maxLen at hc0
 have HLS:=hid hl
 have HP:=hid hp
 have HI:=hid (zs5 p l)
 generalize ixI 0 p l=r at *
 clear hl hp
 go_enter Tryz.func169,Tryz.ntmps169
 go_wp2_with fail
 go_loopw [8,5] (fun i _ wr=>∃k:Nat,i=.int .i64 k∧k≤l.length∧r=ixI k p (l.drop k)∧Below w.heap.size w wr) (fun i _ _=>l.length - (intOf i).toNat)
 case atStart=>exact⟨0,rfl,by omega,HI.out,Below.refl _ _⟩
 case round=>
  obtain⟨k,rfl,hk,hr,bel⟩:=hrel
  have HR:=hid hr
  clear hr
  by_cases hlt:k<l.length
  ·have hltI:(k:Int)<l.length:=by omega
   obtain⟨s0',n0',c0',e1,_,_,_,g1⟩:=(HLS.out.below bel).get
   cases e1
   obtain⟨g2,g3⟩:=zgs f g l k hlt
   obtain⟨ad,rfl,d0⟩:=g1 _ _ g2
   obtain⟨a',e',d1⟩:=g1 _ _ g3
   cases e'
   clear g1 g2 g3
   have YES:=hid (fun h=>HR.out.trans (yfp (p:=p) hlt h))
   have NO:=hid (fun h=>HR.out.trans (ymq (p:=p) hlt h))
   have KK:=hid (show k+1≤l.length by omega)
   have x1:(0:Int)≤k:=by omega
   have x2:(k:Int).toNat=k:=by omega
   have HC:=hid (HP.out wr l[k] (List.getElem_mem _) bel)
   generalize l[k]=x at d0 d1 YES NO HC
   have d1:=zao d1
   generalize f x=fx at d0 HC
   generalize g x=gx at d1 HC
   cases hpx:p x with
   | true=>
    rw[hpx] at HC
    have Y:=hid (YES.out hpx)
    clear YES NO hpx
    go_wp2_with fail
    refine HC.out.mono ?_
    rintro e w1⟨rfl,b1⟩
    go_wp2_with fail
    go_ret
    exact⟨by rw[Y.out];rfl,zaa bel b1⟩
   | false=>
    rw[hpx] at HC
    have Y:=hid (NO.out hpx)
    clear YES NO hpx
    go_wp2_with fail
    refine HC.out.mono ?_
    rintro e w1⟨rfl,b1⟩
    go_wp2_with fail
    go_roundw
    case rel=>exact⟨k+1,by go_num,KK.out,Y.out,zaa bel b1⟩
    case measure=>simp[intOf];omega
  ·have hltI:¬(k:Int)<l.length:=by omega
   have Y:=hid (HR.out.trans (yfq (p:=p) (by omega:l.length≤k)))
   go_wp2_with fail
   go_ret
   exact⟨by rw[Y.out];rfl,bel⟩
theorem znp{α:Type}(f g:α→Value)(h1:∀x,(f x).oneCell'=true∧(g x).oneCell'=true)(p:α→Bool)(fn:Nat)(lb:Array Value)(eg:∀args w,(callFunc fn args).run Tryz.prog w=.ok (.enter fn args) w)(base:Nat)(v:Value)(l:List α)(w:World)
  (hown:w.ownsRow base 126 2 v l.length (zip f g l)) (hp:∀(W:World)(x:α),x∈l→Chg w W (zi9 v)→Calls Tryz.prog fn (#[.agg #[f x,g x]]++lb) W fun e w'=>e=.returned (.bool (p x))∧Below W.heap.size W w') :
  Calls Tryz.prog 136 #[v,.func (.func fn) #[] lb] w fun e w'=>∃v',e=.returned v'∧w'.ownsRow base 126 2 v' (l.filter fun x=>!p x).length (zip f g (l.filter fun x=>!p x))∧v'.ownBlock=v.ownBlock∧Chg w w' (zi9 v):=by
 have hsl:SliceIs w v 2 (zip f g l):=SliceIs.ownedK hown
 obtain⟨s,n0,c,rfl,hn,hc1,hc0,hg⟩:=hsl.get
 have hn0:n0=l.length:=by rw[zll] at hn;omega
 subst hn0
 have IX:=hid (yar f g p fn lb eg s l.length c l w hsl (fun W x hx hb=>hp W x hx (Chg.of_below hb _)))
 have HP:=hid hp
 have hcl:=hc0
 unfold maxLen at hcl
 rcases zqx p l with⟨hi,hall⟩|⟨k0,hk0,hi,hpk,hall⟩
 ·have HF:=hid (show(l.filter fun x=>!p x)=l from List.filter_eq_self.2 (fun x hx=>by simp[hall x hx]))
  have HOWN:=hid hown
  rw[hi] at IX
  clear hown hp hsl hg hi hall hn
  go_enter Tryz.func136,Tryz.ntmps136
  go_wp2_with fail
  refine IX.out.mono ?_
  rintro e w1⟨rfl,b1⟩
  go_wp2_with fail
  go_ret
  refine⟨_,rfl,?_,rfl,Chg.of_below b1 _⟩
  rw[HF.out]
  exact zad HOWN.out b1
 ·rw[hi] at IX
  obtain⟨g0,cap,hv,hgb,hgs,_,_,_,_⟩:=zgc hown (by omega)
  cases hv
  have hne:((k0:Int)==-1)=false:=by first|(simp;done)|(simp;omega)
  have HOWN:=hid hown
  have HST:=hid (show l.take k0=(l.take (k0+1)).filter (fun x=>!p x) from ztm hk0 hpk hall)
  have ZV:=yh4
  clear hown hp hsl hg hi hall hn
  go_enter Tryz.func136,Tryz.ntmps136
  go_wp2_with fail
  refine IX.out.mono ?_
  rintro e w1⟨rfl,b1⟩
  have C1:Chg w w1 (zi9 (.slice (some ⟨g0,0,none⟩) l.length c)):=Chg.of_below b1 _
  have O1:=zad HOWN.out b1
  go_wp2_with fail
  clear b1
  go_loopw [5,6,7] (fun i j _ wr=>∃(a b:Nat)(R:List α),i=.int .i64 a∧j=.int .i64 b∧a<b∧b≤l.length∧R.length=l.length∧R.take a=(l.take b).filter (fun x=>!p x)∧R.drop b=l.drop b∧wr.ownsRow base 126 2 (.slice (some ⟨g0,0,none⟩) l.length c) l.length (zip f g R)∧Chg w wr (zi9 (.slice (some ⟨g0,0,none⟩) l.length c))) (fun _ j _ _=>l.length - (intOf j).toNat)
  case atStart=>exact⟨k0,k0+1,l,rfl,by go_num,by omega,by omega,rfl,HST.out,rfl,O1,C1⟩
  case round=>
   clear O1 C1
   obtain⟨a,b,R,rfl,rfl,hab,hb,hR,htk,hdr,hown,chg⟩:=hrel
   have HTK:=hid htk
   have HDR:=hid hdr
   have HO:=hid hown
   have HRL:=hid hR
   obtain⟨g0',cap',hv',_,hgs',_,_,hcell,hfz⟩:=zgc hown (by omega)
   cases hv'
   clear htk hdr
   by_cases hlt:b<l.length
   ·have hltI:(b:Int)<l.length:=by omega
    obtain⟨g2,g3⟩:=zgs f g R b (by omega)
    have hx:R[b]'(by omega)=l[b]:=by
     have h1:=List.getElem_drop (xs:=R) (i:=b) (j:=0) (h:=by rw[List.length_drop];omega)
     have h2:=List.getElem_drop (xs:=l) (i:=b) (j:=0) (h:=by rw[List.length_drop];omega)
     simp only[HDR.out,Nat.add_zero] at h1 h2
     rw[←h1,←h2]
    rw[hx] at g2 g3
    have d0:=hcell _ _ g2
    have d1:=hcell _ _ g3
    obtain⟨k2,k3⟩:=zgs f g R a (by omega)
    have o0:=hcell _ _ k2
    have o1:=hcell _ _ k3
    have z0:=hfz (a * 2)
    have z1:=hfz (a * 2+1)
    have HC:=hid (fun W hW=>HP.out W l[b] (List.getElem_mem _) hW)
    have SK:=hid (fun h=>yoy (p:=p) (a:=a) HRL.out hlt h HTK.out HDR.out)
    have KP:=hid (fun h=>yoz (p:=p) (a:=a) HRL.out hab hlt h HTK.out HDR.out)
    have H1:=hid (h1 l[b])
    generalize l[b]=x at d0 d1 HC SK KP H1
    generalize hfx:f x=fx at d0 HC
    generalize hgx:g x=gx at d1 HC
    have HFX:=hid hfx
    have HGX:=hid hgx
    obtain⟨e0,e1⟩:=H1.out
    rw[hfx] at e0
    rw[hgx] at e1
    have hs0:∀(a:Addr)(m:Mode)(w:World),Sem.run Tryz.prog (store a fx m) w=stored Tryz.prog w a fx m:=fun a m w=>run_store _ _ _ _ m e0
    have hs1:∀(a:Addr)(m:Mode)(w:World),Sem.run Tryz.prog (store a gx m) w=stored Tryz.prog w a gx m:=fun a m w=>run_store _ _ _ _ m e1
    generalize f R[a]=ox0 at *
    generalize g R[a]=ox1 at *
    clear g2 g3 k2 k3 hcell hx hfx hgx hown hR
    have KK:=hid (show b+1≤l.length by omega)
    have x1:(0:Int)≤a:=by omega
    have x2:(a:Int).toNat=a:=by omega
    have x3:(0:Int)≤b:=by omega
    have x4:(b:Int).toNat=b:=by omega
    have x5:(a:Int)<l.length:=by omega
    have cA:=chg.alloc (.cells #[fx,gx] 126)
    cases hpx:p x with
    | true=>
     have Y:=hid (SK.out hpx)
     rw[hpx] at HC
     clear SK KP hpx o0 o1 z0 z1
     go_wp2_with fail
     refine(HC.out _ cA).mono ?_
     rintro e w2⟨rfl,b2⟩
     go_wp2_with fail
     go_roundw
     case rel=>exact⟨a,b+1,R,rfl,by go_num,by omega,KK.out,HRL.out,Y.out.1,Y.out.2,zad (HO.out.alloc _) b2,cA.trans (Chg.of_below b2 _) (fun x _ h=>h)⟩
     case measure=>simp[intOf];omega
    | false=>
     have Y:=hid (KP.out hpx)
     rw[hpx] at HC
     clear SK KP hpx
     go_wp2_with fail
     refine(HC.out _ cA).mono ?_
     rintro e w2⟨rfl,b2⟩
     have O2:=zad (HO.out.alloc (.cells #[fx,gx] 126)) b2
     have al0:w2.cell? ⟨wr.heap.size,0,none⟩=some fx:=(b2.cell (p:=⟨wr.heap.size,0,none⟩) (by simp)).trans (by simp)
     have al1:w2.cell? ⟨wr.heap.size,1,none⟩=some gx:=(b2.cell (p:=⟨wr.heap.size,1,none⟩) (by simp)).trans (by simp)
     have p0:w2.cell? ⟨g0,a * 2,none⟩=some ox0:=(b2.cell (p:=⟨g0,a * 2,none⟩) (by simp;omega)).trans (Lib.cell?_alloc_some _ o0)
     have p1:w2.cell? ⟨g0,a * 2+1,none⟩=some ox1:=(b2.cell (p:=⟨g0,a * 2+1,none⟩) (by simp;omega)).trans (Lib.cell?_alloc_some _ o1)
     have q0:w2.frozen? ⟨g0,a * 2,none⟩=false:=O2.frozenAt _
     have q1:w2.frozen? ⟨g0,a * 2+1,none⟩=false:=O2.frozenAt _
     have C2:=cA.trans (Chg.of_below b2 _) (fun x _ h=>h)
     have HO2:=hid O2
     clear O2 o0 o1 z0 z1 d0 d1 hfz
     go_wp2_with fail
     go_roundw
     case rel=>
      have ST:=zko f g HO2.out a x
      rw[HFX.out,HGX.out] at ST
      exact⟨a+1,b+1,R.set a x,by go_num,by go_num,by omega,KK.out,by rw[List.length_set];exact HRL.out,Y.out.1,Y.out.2,ST,(C2.set ⟨g0,a * 2,none⟩ (.inl rfl) fx).set ⟨g0,a * 2+1,none⟩ (.inl rfl) gx⟩
     case measure=>simp[intOf];omega
   ·have hltI:¬(b:Int)<l.length:=by omega
    obtain rfl:b=l.length:=by omega
    obtain⟨w3,hrun,O3,G3⟩:=zji (P:=Tryz.prog) (t:=33) (k:=a) hown (by omega) (by decide) Tryz.underlying33 (ZV wr) rfl (by intro u hu;simp[Value.cells] at hu;rcases hu with rfl|rfl<;>rfl)
    have HTL:=HTK.out
    rw[List.take_length] at HTL
    have HLEN:(l.filter fun x=>!p x).length=a:=by rw[←HTL,List.length_take];omega
    have HFL:=hid (show zip f g (l.filter fun x=>!p x)=(zip f g R).take (a * 2) by rw[zmb,HTL])
    have HLN:=hid HLEN
    clear HTL HLEN hown hfz hcell
    have x1:(0:Int)≤a:=by omega
    have x2:(a:Int).toNat=a:=by omega
    have x5:(a:Int)≤l.length:=by omega
    have HO3:=hid O3
    have G:=hid G3
    clear O3 G3 hR
    go_wp2_with fail
    go_ret
    rw[HLN.out,HFL.out]
    exact⟨_,rfl,HO3.out,rfl,chg.trans (Chg.of_grown G.out) (fun x _ h=>by subst h;rfl)⟩
def Free(n:Nat)(fr:Nat×Nat):Prop:=∀j,j<n→¬(fr.1≤j∧j<fr.2)
theorem Free.zero(n:Nat):Free n (0,0):=fun j _ h=>by omega
def BufIs(w:World)(base:Nat)(e:TypeId)(v:Value)(xs:List Value):Prop:=
 (v=.slice none 0 0∧xs=[])∨∃g cap cur fr,v=.slice (some ⟨g,0,none⟩) xs.length cap∧base≤g∧w.heap[g]?=some (.cells cur e fr)∧Free cur.size fr∧xs.length≤cap∧cap≤cur.size∧cap≤maxLen∧cur.toList.take xs.length=xs
theorem zvq{w:World}{g:Nat}{cur:Array Value}{e:TypeId}{fr:Nat×Nat}(hg:w.heap[g]?=some (.cells cur e fr))(hf:Free cur.size fr)(j:Nat)(hj:j<cur.size):w.frozen? ⟨g,j,none⟩=false:=by
 obtain⟨lo,hi⟩:=fr
 have:=hf j hj
 simp only[World.frozen?,hg]
 simp only[Bool.and_eq_false_iff,decide_eq_false_iff_not]
 simp only at this
 omega
theorem zfi(P:Program)(g o:Nat)(t:TypeId)(fr:Nat×Nat):∀(vs:List Value)(i:Nat)(cur:Array Value)(w:World),w.heap[g]?=some (.cells cur t fr)→Free cur.size fr→o+i+vs.length≤cur.size→(∀v∈vs,v.oneCell'=true)→
  (storeCells ⟨g,o,none⟩ vs i).run P w=.ok () (w.setRow g (cur.toList.take (o+i)++vs++cur.toList.drop (o+i+vs.length)).toArray)
 | [],i,cur,w,hg,_,_,_=>by
  simp only[storeCells,List.append_nil,List.length_nil,Nat.add_zero,List.take_append_drop,Array.toArray_toList]
  rw[setRow_self w g cur t fr hg]
  rfl
 | v::rest,i,cur,w,hg,hf,hl,h1=>by
  have hi:o+i<cur.size:=by simp at hl;omega
  have hadd:(⟨g,o,none⟩:Addr).add i=⟨g,o+i,none⟩:=by unfold Addr.add;split<;>simp_all
  have hcell:w.cell? ⟨g,o+i,none⟩=some cur[o+i]:=by simp[World.cell?,hg,hi]
  have hfro:w.frozen? ⟨g,o+i,none⟩=false:=zvq hg hf _ hi
  have hst:(store ((⟨g,o,none⟩:Addr).add i) v).run P w=.ok () (w.setRow g (cur.setIfInBounds (o+i) v)):=by
   rw[hadd,run_store P w _ v _ (h1 v (by simp)),hcell]
   simp[hfro,setCell_eq_setRow w g (o+i) cur t fr v hg]
  have ih:=zfi P g o t fr rest (i+1) (cur.setIfInBounds (o+i) v) (w.setRow g (cur.setIfInBounds (o+i) v)) (setRow_heap w g cur _ t _ hg) (by simpa using hf) (by simp at hl ⊢;omega) (fun x hx=>h1 x (by simp[hx]))
  simp only[storeCells,Sem.run_bind,hst,Result.andThen_ok,ih,setRow_setRow]
  congr 3
  have e:=list_seg_step cur.toList (o+i) v rest (by simp at hl ⊢;omega)
  simpa [Array.toList_setIfInBounds,Nat.add_assoc] using e
theorem zio{P:Program}(w:World)(t u ty e:TypeId)(i:TypeInfo)(ht:P.underlying t=some (.slice e))(hu:P.underlying u=some .string)(hi:P.info? e=some i)(hs1:i.size=1)
  (g sLen sCap:Nat) (cur:Array Value) (fr:Nat×Nat) (hg:w.heap[g]?=some (.cells cur e fr)) (hf:Free cur.size fr) (s:ByteArray) (hroom:sLen+s.size≤sCap) (hfit:sLen+s.size≤cur.size) :
  (Builtin.append_ #[t,u] ty #[.slice (some ⟨g,0,none⟩) sLen sCap,.string s]).run P w=
   .ok (.slice (some ⟨g,0,none⟩) (sLen+s.size) sCap) (w.setRow g (cur.toList.take sLen++Lib.strCells s++cur.toList.drop (sLen+s.size)).toArray):=by
 have hf1:=Lib.run_firstCells_string (P:=P) w 1 s
 have hst:=zfi P g sLen e fr (Lib.strCells s) 0 cur w hg hf (by simpa [Lib.strCells_length] using hfit) (Lib.strCells_oneCell s)
 simp only[Nat.add_zero,Lib.strCells_length] at hst
 simp[Builtin.append_,run_underlying ht,run_underlying hu,sizeOf,typeInfo,hi,hs1,Builtin.lenOf,hroom,hf1,Addr.add_lit,hst]
theorem BufIs.cells{w:World}{base:Nat}{e:TypeId}{v:Value}{xs:List Value}(h:BufIs w base e v xs){a:Addr}{n c:Nat}(hv:v=.slice (some a) n c):n=xs.length∧a.off=0∧a.spot=none∧∀j u,xs[j]?=some u→w.cell? (a.add j)=some u:=by
 rcases h with⟨rfl,rfl⟩|⟨g,cap,cur,fr,rfl,hb,hg,hf,h1,h2,h3,h4⟩
 ·cases hv
 ·cases hv
  refine⟨rfl,rfl,rfl,fun j u hj=>?_⟩
  have hadd:(⟨g,0,none⟩:Addr).add j=⟨g,j,none⟩:=by unfold Addr.add;split<;>simp_all
  rw[hadd,cell_of_row w g j cur e fr hg]
  have hjl:j<xs.length:=(List.getElem?_eq_some_iff.1 hj).1
  rw[←h4,List.getElem?_take,if_pos hjl] at hj
  simpa using hj
theorem BufIs.slice{w:World}{base:Nat}{e:TypeId}{v:Value}{xs:List Value}(h:BufIs w base e v xs):SliceIs w v 1 xs:=by
 rcases h with⟨rfl,rfl⟩|⟨g,cap,cur,fr,rfl,hb,hg,hf,h1,h2,h3,h4⟩
 ·exact .inl ⟨rfl,rfl⟩
 ·exact .inr ⟨_,_,cap,rfl,h1,h3,by simp,(BufIs.cells (.inr ⟨g,cap,cur,fr,rfl,hb,hg,hf,h1,h2,h3,h4⟩:BufIs w base e _ xs) rfl).2.2.2⟩
theorem BufIs.val{w:World}{base:Nat}{e:TypeId}{v:Value}{xs:List Value}(h:BufIs w base e v xs):∃a c,v=.slice a xs.length c:=by
 rcases h with⟨rfl,rfl⟩|⟨g,cap,cur,fr,rfl,_⟩
 ·exact⟨_,_,rfl⟩
 ·exact⟨_,_,rfl⟩
theorem BufIs.val3{w:World}{base:Nat}{e:TypeId}{v:Value}{xs:List Value}(h:BufIs w base e v xs):∃a n c,v=.slice a n c:=by
 obtain⟨a,c,e⟩:=h.val
 exact⟨a,_,c,e⟩
theorem BufIs.at{w:World}{base:Nat}{e:TypeId}{v:Value}{xs:List Value}(h:BufIs w base e v xs){b:Nat}(hb:v.ownBlock=some b):base≤b∧b<w.heap.size:=by
 rcases h with⟨rfl,rfl⟩|⟨g,cap,cur,fr,rfl,h0,hg,_⟩
 ·cases hb
 ·cases hb;exact⟨h0,lt_of_block hg⟩
theorem BufIs.kept{w w':World}{base:Nat}{e:TypeId}{v:Value}{xs:List Value}(h:BufIs w base e v xs)(hk:∀b,v.ownBlock=some b→w'.heap[b]?=w.heap[b]?):BufIs w' base e v xs:=by
 rcases h with h|⟨g,cap,cur,fr,rfl,hb,hg,hr⟩
 ·exact .inl h
 ·exact .inr ⟨g,cap,cur,fr,rfl,hb,(hk g rfl).trans hg,hr⟩
theorem BufIs.below{w w':World}{base:Nat}{e:TypeId}{v:Value}{xs:List Value}(h:BufIs w base e v xs)(hb:Below w.heap.size w w'):BufIs w' base e v xs:=
 h.kept fun b hb'=>hb.block b (h.at hb').2
theorem BufIs.drew{w:World}{base:Nat}{e:TypeId}{v:Value}{xs:List Value}(h:BufIs w base e v xs):BufIs w.drew base e v xs:=h.kept fun _ _=>rfl
theorem BufIs.nil(w:World)(base:Nat)(e:TypeId):BufIs w base e (.slice none 0 0) []:=.inl ⟨rfl,rfl⟩
theorem BufIs.conv(w:World)(base:Nat)(e:TypeId)(s:ByteArray)(hb:base≤w.heap.size)(hs:s.size≤maxLen):BufIs (Lib.bytesWorld w e s) base e (.slice (some ⟨w.heap.size,0,none⟩) s.size (grownCap w s.size 0 e)) (Lib.strCells s):=by
 have hl:=Lib.strCells_length s
 have hc:(Lib.bytesCells w e s).size=grownCap w s.size 0 e:=by
  have:=grownCap_ge w s.size 0 e
  have h2:s.data.size=s.size:=rfl
  simp only[Lib.bytesCells,Array.size_append,Array.size_map,Array.size_replicate,h2]
  omega
 refine .inr ⟨w.heap.size,grownCap w s.size 0 e,_,_,by rw[hl],hb,Lib.bytesWorld_at_new w e s,fun j hj h=>by simp only at h;omega,by rw[hl];exact grownCap_ge _ _ _ _,Nat.le_of_eq hc.symm,grownCap_le_maxLen w _ _ _ hs,?_⟩
 have e1:(Lib.bytesCells w e s).toList=Lib.strCells s++List.replicate (grownCap w s.size 0 e - s.size) (.int .u8 0):=by simp[Lib.bytesCells,Lib.strCells]
 rw[e1];exact List.take_left
theorem BufIs.cut{w:World}{base:Nat}{e:TypeId}{a:Addr}{n c:Nat}{xs:List Value}(h:BufIs w base e (.slice (some a) n c) xs)(k:Nat)(hk:k≤xs.length):BufIs w base e (.slice (some a) k k) (xs.take k):=by
 rcases h with⟨h,_⟩|⟨g,cap,cur,fr,hv,hb,hg,hf,h1,h2,h3,h4⟩
 ·cases h
 ·cases hv
  refine .inr ⟨g,k,cur,fr,by rw[List.length_take,Nat.min_eq_left hk],hb,hg,hf,by rw[List.length_take];omega,by omega,by omega,?_⟩
  rw[List.length_take,Nat.min_eq_left hk]
  conv=>rhs;rw[←h4]
  rw[List.take_take,Nat.min_eq_left hk]
theorem ziu{P:Program}(w:World)(base:Nat)(t u ty e:TypeId)(i:TypeInfo)(ht:P.underlying t=some (.slice e))(hu:P.underlying u=some .string)(hi:P.info? e=some i)(hz:i.zero=some (.int .u8 0))
  (hsize:i.size=1) (hby:i.bytes=1) (v:Value) (xs:List Value) (h:BufIs w base e v xs) (s:ByteArray) (h63:xs.length+s.size≤140737488355328) (hbase:base≤w.heap.size) :
  ∃v' w',(Builtin.append_ #[t,u] ty #[v,.string s]).run P w=.ok v' w'∧BufIs w' base e v' (xs++Lib.strCells s)∧w.grownBy w' v.ownBlock∧(v'.ownBlock=v.ownBlock∨v'.ownBlock=some w.heap.size):=by
 have hml:(140737488355328:Nat)≤maxLen:=by unfold maxLen;omega
 have hlen:(xs++Lib.strCells s).length=xs.length+s.size:=by rw[List.length_append,Lib.strCells_length]
 have grown:∀(old:Nat),old<xs.length+s.size→∀(row:Option Nat),
   BufIs (w.drew.alloc (.cells (xs.toArray++(Lib.strCells s).toArray++Builtin.zeroCells (Value.int .u8 0).cells (grownCap w (xs.length+s.size) old e - (xs.length+s.size))) e)) base e
    (.slice (some ⟨w.heap.size,0,none⟩) (xs.length+s.size) (grownCap w (xs.length+s.size) old e)) (xs++Lib.strCells s)∧
   w.grownBy (w.drew.alloc (.cells (xs.toArray++(Lib.strCells s).toArray++Builtin.zeroCells (Value.int .u8 0).cells (grownCap w (xs.length+s.size) old e - (xs.length+s.size))) e)) row:=by
  intro old ho row
  have hge:=grownCap_ge w (xs.length+s.size) old e
  have hcm:grownCap w (xs.length+s.size) old e≤maxLen:=grownCap_le_maxLen w _ old e (by omega)
  refine⟨.inr ⟨w.heap.size,_,_,(0,0),by rw[hlen],hbase,heap_alloc_new w.drew _,Free.zero _,by rw[hlen];exact hge,?_,hcm,?_⟩,⟨rfl,rfl,rfl,by simp,fun k hk _=>Below.heap_alloc w.drew _ k hk⟩⟩
  ·have hz1:(Value.int IntKind.u8 0).cells.size=1:=rfl
   simp only[Array.size_append,List.size_toArray,size_zeroCells,hz1,Lib.strCells_length]
   omega
  ·simp only[Array.toList_append,List.append_assoc]
   rw[←List.append_assoc]
   exact List.take_left
 rcases h with⟨rfl,rfl⟩|⟨g,cap,cur,fr,rfl,hbg,hg,hf,hnc,hcs,hcm,htake⟩
 ·by_cases hm:s.size=0
  ·have hn:Lib.strCells s=[]:=List.eq_nil_of_length_eq_zero (by rw[Lib.strCells_length];exact hm)
   refine⟨.slice none 0 0,w,?_,by rw[hn];exact BufIs.nil w base e,⟨rfl,rfl,rfl,Nat.le_refl _,fun _ _ _=>rfl⟩,.inl rfl⟩
   have hf:=Lib.run_firstCells_string (P:=P) w 1 s
   rw[hm] at hf
   simp[Builtin.append_,run_underlying ht,run_underlying hu,sizeOf,typeInfo,hi,hsize,Builtin.lenOf,hm,hf]
  ·have hr:=run_append_nil_string (P:=P) w t u ty e i (.int .u8 0) ht hu hi hz s (by omega) (by simp at h63;omega) (by rw[hby];simp at h63;omega)
   have hgr:=grown 0 (by simp;omega) (Value.ownBlock (.slice none 0 0))
   simp only[List.length_nil,Nat.zero_add,List.nil_append,Array.empty_append] at hgr ⊢
   have e1:(s.data.map fun b=>Value.int .u8 b.toNat)=(Lib.strCells s).toArray:=by
    apply Array.ext'
    simp[Lib.strCells]
   rw[e1] at hr
   exact⟨_,_,hr,by simpa using hgr.1,by simpa using hgr.2,.inr rfl⟩
 ·have h':BufIs w base e (.slice (some ⟨g,0,none⟩) xs.length cap) xs:=.inr ⟨g,cap,cur,fr,rfl,hbg,hg,hf,hnc,hcs,hcm,htake⟩
  by_cases hroom:xs.length+s.size≤cap
  ·have hr:=zio (P:=P) w t u ty e i ht hu hi hsize g xs.length cap cur fr hg hf s hroom (by omega)
   have hsz:(cur.toList.take xs.length++Lib.strCells s++cur.toList.drop (xs.length+s.size)).toArray.size=cur.size:=by
    simp only[List.size_toArray,List.length_append,List.length_take,List.length_drop,Array.length_toList,Lib.strCells_length]
    omega
   refine⟨_,_,hr,.inr ⟨g,cap,_,fr,by rw[hlen],hbg,setRow_heap w g cur _ e _ hg,by rw[hsz];exact hf,by omega,by rw[hsz];exact hcs,hcm,?_⟩,⟨rfl,rfl,rfl,by simp,fun k _ hk=>setRow_other w g k _ (fun e=>hk (by simp[Value.ownBlock,e]))⟩,.inl rfl⟩
   rw[htake]
   simp only[List.append_assoc]
   rw[←List.append_assoc]
   exact List.take_left
  ·have holds:=(h'.cells rfl).2.2.2
   have hr:=Lib.run_append_grow_string (P:=P) w t u ty e i (.int .u8 0) ht hu hi hz ⟨g,0,none⟩ xs.length cap xs (by rw[hsize,Nat.mul_one]) holds s (by omega) (by omega) (by rw[hby];exact growslice_fits (by omega) (by omega))
   have hgr:=grown cap (by omega) (Value.ownBlock (.slice (some ⟨g,0,none⟩) xs.length cap))
   exact⟨_,_,hr,hgr.1,hgr.2,.inr rfl⟩
theorem zf3{P:Program}{w:World}{ops:Array Oper}{rest:List Oper}{o:Oper}{a:Act}{Q:Exit→Act→World→Prop}(hgd:o.guard=none)(sl x:Operand)(t u:TypeId)
  (ho:o.op=.call {callee:=.builtin .append,args:=#[sl,x],argTypes:=#[t,u]})
  (base:Nat) (e:TypeId) (i:TypeInfo) (ht:P.underlying t=some (.slice e)) (hu:P.underlying u=some .string) (hi:P.info? e=some i) (hz:i.zero=some (.int .u8 0)) (hsize:i.size=1) (hby:i.bytes=1)
  (v:Value) (xs:List Value) (hs:a.eval sl=v) (hown:BufIs w base e v xs) (s:ByteArray) (hx:a.eval x=.string s) (h63:xs.length+s.size≤140737488355328) (hbase:base≤w.heap.size)
  (h:∀v' w',BufIs w' base e v' (xs++Lib.strCells s)→w.grownBy w' v.ownBlock→(v'.ownBlock=v.ownBlock∨v'.ownBlock=some w.heap.size)→wpList P ops Q rest (a.put o.dst v') w'):wpList P ops Q (o::rest) a w:=by
 refine wpList_plain hgd fun K hK=>?_
 obtain⟨v',w',hr,h2,h3,h4⟩:=ziu (P:=P) w base t u o.type e i ht hu hi hz hsize hby v xs hown s h63 hbase
 unfold Oper.wp execOp
 simp only[ho,resolve,invoke,builtin,Sem.run_bind,Sem.run_pure,Result.andThen_ok,List.map_toArray,List.map_cons,List.map_nil,hs,hx,hr]
 exact hK _ _ (h v' w' h2 h3 h4)
theorem zl8{P:Program}{ops:Array Oper}{o:Oper}{a:Act}{w:World}{K:Act→World→Prop}{Q:Exit→Act→World→Prop}{E:Prop}
  (hg:o.guard=none) (sl x:Operand) (t u:TypeId) (ho:o.op=.call {callee:=.builtin .append,args:=#[sl,x],argTypes:=#[t,u]})
  (base:Nat) (e:TypeId) (i:TypeInfo) (ht:P.underlying t=some (.slice e)) (hu:P.underlying u=some .string) (hi:P.info? e=some i) (hz:i.zero=some (.int .u8 0)) (hsize:i.size=1) (hby:i.bytes=1)
  (v:Value) (xs:List Value) (hs:a.eval sl=v) (hown:BufIs w base e v xs) (s:ByteArray) (hx:a.eval x=.string s) (h63:xs.length+s.size≤140737488355328) (hbase:base≤w.heap.size)
  (h:∀v' w',BufIs w' base e v' (xs++Lib.strCells s)→w.grownBy w' v.ownBlock→(v'.ownBlock=v.ownBlock∨v'.ownBlock=some w.heap.size)→K (a.put o.dst v') w') :
  if Region.wanted o (yielded ops a.tmps)=true then Oper.wp P o a w K Q else E:=by
 have hw:Region.wanted o (yielded ops a.tmps)=true:=by simp[Region.wanted,hg]
 rw[if_pos hw]
 obtain⟨v',w',hr,h2,h3,h4⟩:=ziu (P:=P) w base t u o.type e i ht hu hi hz hsize hby v xs hown s h63 hbase
 unfold Oper.wp execOp
 simp only[ho,resolve,invoke,builtin,Sem.run_bind,Sem.run_pure,Result.andThen_ok,List.map_toArray,List.map_cons,List.map_nil,hs,hx,hr]
 exact h v' w' h2 h3 h4
section
def zfl(k:ByteArray):List MapEntry→Option Value
 | []=>none
 | e::es=>match e.key with
  | .string s=>if k=s then some e.val else zfl k es
  | _=>zfl k es
def zmn(es:List MapEntry):Prop:=∀e∈es,∃s,e.key=.string s
theorem znl(k:ByteArray):∀(es:List MapEntry)(i:Nat),zmn es→∃r,Instr.findNow .string (.string k) es i=some r∧r.map Prod.snd=zfl k es:=by
 intro es
 induction es with
 | nil=>intro i _;exact⟨none,rfl,rfl⟩
 | cons e es ih=>
  intro i h
  obtain⟨s,hs⟩:=h e (by simp)
  obtain⟨r,h1,h2⟩:=ih (i+1) (fun x hx=>h x (List.mem_cons_of_mem _ hx))
  by_cases hk:k=s
  ·have hb:(k==s)=true:=(MapKept.bytes_beq k s).2 hk
   refine⟨some (i,e.val),?_,?_⟩
   ·simp[Instr.findNow,hs,Instr.sameNow,hb]
   ·simp[zfl,hs,hk]
  ·have hb:(k==s)=false:=by
    cases h:k==s with
    | false=>rfl
    | true=>exact absurd ((MapKept.bytes_beq k s).1 h) hk
   refine⟨r,?_,?_⟩
   ·simp[Instr.findNow,hs,Instr.sameNow,hb,h1]
   ·simp[zfl,hs,hk,h2]
variable{P:Program}
theorem zr5{w:World}(mty kt et:TypeId)(r clock:Nat)(es:Array MapEntry)(s:ByteArray)(val:Value)(hm:P.underlying mty=some (.map kt et))(hk:P.underlying kt=some .string)(hb:w.heap[r]?=some (.map es clock))(hkeys:zmn es.toList)(hf:zfl s es.toList=none):
  (Instr.mapUpdate mty (.map (some r)) (.string s) val).run P w=.ok () {w with heap:=w.heap.setIfInBounds r (.map (es.push {key:=.string s,val:=val,born:=clock}) (clock+1))}:=by
 obtain⟨q,h1,h2⟩:=znl s es.toList 0 hkeys
 rw[hf] at h2
 have hq:q=none:=by cases q<;>simp_all
 subst hq
 have hc:(Instr.checkKey false 10000 kt (.string s)).run P w=.ok () w:=MapKept.run_checkKey (k:=.string s) hk (by simp[MapKept.IsKey]) false 9999
 simp[Instr.mapUpdate,run_underlying hm,MapKept.run_getObj_map hb,hc,MapKept.run_findKey hk h1,MapKept.run_setObj_map _ hb,Result.andThen]
theorem zr6{w:World}(mty kt et:TypeId)(r clock:Nat)(es:Array MapEntry)(s:ByteArray)(z:Value)(hm:P.underlying mty=some (.map kt et))(hk:P.underlying kt=some .string)(hb:w.heap[r]?=some (.map es clock))(hkeys:zmn es.toList)(hz:(zeroValue et).run P w=.ok z w):
  (Instr.lookup mty (.map (some r)) (.string s) true).run P w=.ok (.tuple #[(zfl s es.toList).getD z,.bool (zfl s es.toList).isSome]) w:=by
 obtain⟨q,h1,h2⟩:=znl s es.toList 0 hkeys
 have hc:(Instr.checkKey es.isEmpty 10000 kt (.string s)).run P w=.ok () w:=MapKept.run_checkKey (k:=.string s) hk (by simp[MapKept.IsKey]) es.isEmpty 9999
 rw[←h2]
 cases q with
 | none=>simp[Instr.lookup,run_underlying hm,MapKept.run_getObj_map hb,hc,MapKept.run_findKey hk h1,Result.andThen,hz]
 | some q=>obtain⟨i,v⟩:=q;simp[Instr.lookup,run_underlying hm,MapKept.run_getObj_map hb,hc,MapKept.run_findKey hk h1,Result.andThen]
end
theorem zce{P:Program}(w:World)(mty kt et:TypeId)(c:Nat)(es:Array MapEntry)(s:ByteArray)(val:Value)(hm:P.underlying mty=some (.map kt et))(hk:P.underlying kt=some .string)(hkeys:zmn es.toList)(hf:zfl s es.toList=none):
  (Instr.mapUpdate mty (.map (some w.heap.size)) (.string s) val).run P (w.alloc (.map es c))=.ok () (w.alloc (.map (es.push {key:=.string s,val:=val,born:=c}) (c+1))):=by
 rw[zr5 mty kt et w.heap.size c es s val hm hk (heap_alloc_new w _) hkeys hf]
 have e:((w.heap.push (.map es c)).setIfInBounds w.heap.size (.map (es.push {key:=.string s,val:=val,born:=c}) (c+1)))=w.heap.push (.map (es.push {key:=.string s,val:=val,born:=c}) (c+1)):=by
  apply Array.ext'
  simp
 exact congrArg (fun hp=>Result.ok () {w with heap:=hp}) e
def zis:MapEntry:={key:=.string ⟨#[100,114,111,112]⟩,val:=.agg #[.int .i64 (2),.func (.func 68) #[] #[]],born:=0}
def zjb:MapEntry:={key:=.string ⟨#[108,105,115,116]⟩,val:=.agg #[.int .i64 (1),.func (.func 69) #[] #[]],born:=1}
def zk0:MapEntry:={key:=.string ⟨#[112,108,97,110]⟩,val:=.agg #[.int .i64 (0),.func (.func 70) #[] #[]],born:=2}
def zlu:MapEntry:={key:=.string ⟨#[115,105,122,101]⟩,val:=.agg #[.int .i64 (2),.func (.func 71) #[] #[]],born:=3}
def zn9:MapEntry:={key:=.string ⟨#[115,101,110,100]⟩,val:=.agg #[.int .i64 (-1),.func (.func 72) #[] #[]],born:=4}
def zro:MapEntry:={key:=.string ⟨#[111,112,101,110]⟩,val:=.agg #[.int .i64 (1),.func (.func 73) #[] #[]],born:=5}
def zwa:MapEntry:={key:=.string ⟨#[97,100,109,105,116]⟩,val:=.agg #[.int .i64 (2),.func (.func 74) #[] #[]],born:=6}
def yby:MapEntry:={key:=.string ⟨#[109,97,114,107]⟩,val:=.agg #[.int .i64 (2),.func (.func 75) #[] #[]],born:=7}
def ylh:MapEntry:={key:=.string ⟨#[102,97,114]⟩,val:=.agg #[.int .i64 (1),.func (.func 76) #[] #[]],born:=8}
def yp2:MapEntry:={key:=.string ⟨#[99,117,116]⟩,val:=.agg #[.int .i64 (1),.func (.func 77) #[] #[]],born:=9}
def ypb:MapEntry:={key:=.string ⟨#[114,101,99,111,118,101,114]⟩,val:=.agg #[.int .i64 (0),.func (.func 78) #[] #[]],born:=10}
def cmEs:List MapEntry:=[zis,zjb,zk0,zlu,zn9,zro,zwa,yby,ylh,yp2,ypb]
theorem ylg(w:World):Calls Tryz.prog 46 #[] w fun e w'=>e=.returned (.map (some w.heap.size))∧w'=w.alloc (.map cmEs.toArray 11):=by
 have hmm:=@run_makeMap Tryz.prog
 have p0:(Instr.mapUpdate 117 (.map (some w.heap.size)) (.string ⟨#[100,114,111,112]⟩) (.agg #[.int .i64 (2),.func (.func 68) #[] #[]])).run Tryz.prog (w.alloc (.map #[] 0))=.ok () (w.alloc (.map #[zis] 1)):=zce w _ 9 115 0 #[] _ _ Tryz.underlying117 Tryz.underlying9 (by intro e he;simp at he) (by rfl)
 have p1:(Instr.mapUpdate 117 (.map (some w.heap.size)) (.string ⟨#[108,105,115,116]⟩) (.agg #[.int .i64 (1),.func (.func 69) #[] #[]])).run Tryz.prog (w.alloc (.map #[zis] 1))=.ok () (w.alloc (.map #[zis,zjb] 2)):=zce w _ 9 115 1 #[zis] _ _ Tryz.underlying117 Tryz.underlying9 (by intro e he;simp at he;subst he;exact⟨_,rfl⟩) (by rfl)
 have p2:(Instr.mapUpdate 117 (.map (some w.heap.size)) (.string ⟨#[112,108,97,110]⟩) (.agg #[.int .i64 (0),.func (.func 70) #[] #[]])).run Tryz.prog (w.alloc (.map #[zis,zjb] 2))=.ok () (w.alloc (.map #[zis,zjb,zk0] 3)):=zce w _ 9 115 2 #[zis,zjb] _ _ Tryz.underlying117 Tryz.underlying9 (by intro e he;simp at he;rcases he with rfl|rfl<;>exact⟨_,rfl⟩) (by rfl)
 have p3:(Instr.mapUpdate 117 (.map (some w.heap.size)) (.string ⟨#[115,105,122,101]⟩) (.agg #[.int .i64 (2),.func (.func 71) #[] #[]])).run Tryz.prog (w.alloc (.map #[zis,zjb,zk0] 3))=.ok () (w.alloc (.map #[zis,zjb,zk0,zlu] 4)):=zce w _ 9 115 3 #[zis,zjb,zk0] _ _ Tryz.underlying117 Tryz.underlying9 (by intro e he;simp at he;rcases he with rfl|rfl|rfl<;>exact⟨_,rfl⟩) (by rfl)
 have p4:(Instr.mapUpdate 117 (.map (some w.heap.size)) (.string ⟨#[115,101,110,100]⟩) (.agg #[.int .i64 (-1),.func (.func 72) #[] #[]])).run Tryz.prog (w.alloc (.map #[zis,zjb,zk0,zlu] 4))=.ok () (w.alloc (.map #[zis,zjb,zk0,zlu,zn9] 5)):=zce w _ 9 115 4 #[zis,zjb,zk0,zlu] _ _ Tryz.underlying117 Tryz.underlying9 (by intro e he;simp at he;rcases he with rfl|rfl|rfl|rfl<;>exact⟨_,rfl⟩) (by rfl)
 have p5:(Instr.mapUpdate 117 (.map (some w.heap.size)) (.string ⟨#[111,112,101,110]⟩) (.agg #[.int .i64 (1),.func (.func 73) #[] #[]])).run Tryz.prog (w.alloc (.map #[zis,zjb,zk0,zlu,zn9] 5))=.ok () (w.alloc (.map #[zis,zjb,zk0,zlu,zn9,zro] 6)):=zce w _ 9 115 5 #[zis,zjb,zk0,zlu,zn9] _ _ Tryz.underlying117 Tryz.underlying9 (by intro e he;simp at he;rcases he with rfl|rfl|rfl|rfl|rfl<;>exact⟨_,rfl⟩) (by rfl)
 have p6:(Instr.mapUpdate 117 (.map (some w.heap.size)) (.string ⟨#[97,100,109,105,116]⟩) (.agg #[.int .i64 (2),.func (.func 74) #[] #[]])).run Tryz.prog (w.alloc (.map #[zis,zjb,zk0,zlu,zn9,zro] 6))=.ok () (w.alloc (.map #[zis,zjb,zk0,zlu,zn9,zro,zwa] 7)):=zce w _ 9 115 6 #[zis,zjb,zk0,zlu,zn9,zro] _ _ Tryz.underlying117 Tryz.underlying9 (by intro e he;simp at he;rcases he with rfl|rfl|rfl|rfl|rfl|rfl<;>exact⟨_,rfl⟩) (by rfl)
 have p7:(Instr.mapUpdate 117 (.map (some w.heap.size)) (.string ⟨#[109,97,114,107]⟩) (.agg #[.int .i64 (2),.func (.func 75) #[] #[]])).run Tryz.prog (w.alloc (.map #[zis,zjb,zk0,zlu,zn9,zro,zwa] 7))=.ok () (w.alloc (.map #[zis,zjb,zk0,zlu,zn9,zro,zwa,yby] 8)):=zce w _ 9 115 7 #[zis,zjb,zk0,zlu,zn9,zro,zwa] _ _ Tryz.underlying117 Tryz.underlying9 (by intro e he;simp at he;rcases he with rfl|rfl|rfl|rfl|rfl|rfl|rfl<;>exact⟨_,rfl⟩) (by rfl)
 have p8:(Instr.mapUpdate 117 (.map (some w.heap.size)) (.string ⟨#[102,97,114]⟩) (.agg #[.int .i64 (1),.func (.func 76) #[] #[]])).run Tryz.prog (w.alloc (.map #[zis,zjb,zk0,zlu,zn9,zro,zwa,yby] 8))=.ok () (w.alloc (.map #[zis,zjb,zk0,zlu,zn9,zro,zwa,yby,ylh] 9)):=zce w _ 9 115 8 #[zis,zjb,zk0,zlu,zn9,zro,zwa,yby] _ _ Tryz.underlying117 Tryz.underlying9 (by intro e he;simp at he;rcases he with rfl|rfl|rfl|rfl|rfl|rfl|rfl|rfl<;>exact⟨_,rfl⟩) (by rfl)
 have p9:(Instr.mapUpdate 117 (.map (some w.heap.size)) (.string ⟨#[99,117,116]⟩) (.agg #[.int .i64 (1),.func (.func 77) #[] #[]])).run Tryz.prog (w.alloc (.map #[zis,zjb,zk0,zlu,zn9,zro,zwa,yby,ylh] 9))=.ok () (w.alloc (.map #[zis,zjb,zk0,zlu,zn9,zro,zwa,yby,ylh,yp2] 10)):=zce w _ 9 115 9 #[zis,zjb,zk0,zlu,zn9,zro,zwa,yby,ylh] _ _ Tryz.underlying117 Tryz.underlying9 (by intro e he;simp at he;rcases he with rfl|rfl|rfl|rfl|rfl|rfl|rfl|rfl|rfl<;>exact⟨_,rfl⟩) (by rfl)
 have p10:(Instr.mapUpdate 117 (.map (some w.heap.size)) (.string ⟨#[114,101,99,111,118,101,114]⟩) (.agg #[.int .i64 (0),.func (.func 78) #[] #[]])).run Tryz.prog (w.alloc (.map #[zis,zjb,zk0,zlu,zn9,zro,zwa,yby,ylh,yp2] 10))=.ok () (w.alloc (.map #[zis,zjb,zk0,zlu,zn9,zro,zwa,yby,ylh,yp2,ypb] 11)):=zce w _ 9 115 10 #[zis,zjb,zk0,zlu,zn9,zro,zwa,yby,ylh,yp2] _ _ Tryz.underlying117 Tryz.underlying9 (by intro e he;simp at he;rcases he with rfl|rfl|rfl|rfl|rfl|rfl|rfl|rfl|rfl|rfl<;>exact⟨_,rfl⟩) (by rfl)
 go_enter Tryz.func46,Tryz.ntmps46
 go_wp2_with fail
 go_ret
 exact⟨rfl,rfl⟩
end Go.Proofs.YtakhkcaihhpehaaGreatDoor
