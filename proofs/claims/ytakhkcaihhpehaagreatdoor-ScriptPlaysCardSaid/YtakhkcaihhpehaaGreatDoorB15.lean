/- Texts of one proof, one behind the other: FilChk2, FilList. -/
import Derived.Test.YtakhkcaihhpehaaGreatDoorB14
import Derived.Test.YtakhkcaihhpehaaGreatDoorB09
import Derived.Test.YtakhkcaihhpehaaGreatDoorB03
import Derived.Test.YtakhkcaihhpehaaGreatDoorB06
import Derived.Lib.SliceRun
namespace Go.Proofs.YtakhkcaihhpehaaGreatDoor
open Go.RowKit
open Lib (hid)
set_option linter.unusedVariables false
set_option maxRecDepth 100000
set_option maxHeartbeats 51200000
def fn0(f:PF):Value:=.string (bs f.n)
def fn1(f:PF):Value:=.string (bs f.d)
def zah(l:List PF):List Value:=zip fn0 fn1 l
theorem zat(l:List PF):(zah l).length=l.length * 2:=zll _ _ l
theorem zb9(l:List PF)(k:Nat)(h:k<l.length):(zah l)[k * 2]?=some (.string (bs l[k].n))∧(zah l)[k * 2+1]?=some (.string (bs l[k].d)):=zgs _ _ l k h
theorem yba:zah []=[]:=rfl
theorem zbf(l m:List PF):zah (l++m)=zah l++zah m:=zgt _ _ l m
theorem zea(l:List PF):∀u∈zah l,u.oneCell'=true:=zk3 _ _ (fun _=>⟨rfl,rfl⟩) l
def FOk(l:List PF):Prop:=∀f∈l,f.n.length≤maxLen∧f.d.length≤maxLen
theorem yfk{w:World}{sb:Nat}{a b c:Value}{t:TypeId}(h:w.heap[sb]?=some (.cells #[a,b,c] t (0,0))):w.cell? ⟨sb,0,none⟩=some a∧w.cell? ⟨sb,1,none⟩=some b∧w.cell? ⟨sb,2,none⟩=some c∧w.frozen? ⟨sb,0,none⟩=false∧w.frozen? ⟨sb,1,none⟩=false∧w.frozen? ⟨sb,2,none⟩=false:=by
 refine⟨?_,?_,?_,?_,?_,?_⟩<;>simp[World.cell?,World.frozen?,h]
theorem yj4{W:World}{sb:Nat}{a b c x y z:Value}{t:TypeId}(h:W.heap[sb]?=some (.cells #[a,b,c] t (0,0))):(((W.setCell ⟨sb,0,none⟩ x).setCell ⟨sb,1,none⟩ y).setCell ⟨sb,2,none⟩ z).heap[sb]?=some (.cells #[x,y,z] t (0,0)):=by
 have:=za2 (k:=2) (u:=z) (za2 (k:=1) (u:=y) (za2 (k:=0) (u:=x) h))
 simpa using this
theorem yk2:∀args w,(callFunc 127 args).run Tryz.prog w=.ok (.enter 127 args) w:=enters_of Tryz.func127 (by kernel_rfl) rfl
theorem ylk(l:List PF)(v:Value)(b k:Nat)(w:World)(hk:k<l.length)(hc:w.cell? ⟨b,0,none⟩=some v)(hl:SliceIs w v 2 (zah l))(hd:FOk l):
  Calls Tryz.prog 127 #[.int .i64 k,.pointer (some ⟨b,0,none⟩)] w fun e w'=>e=.returned (.agg #[.string (bs l[k].n),.int .i64 (l[k].d.length:Int),.int .u32 ((0:Nat):Int)])∧Below w.heap.size w w':=by
 have hb:b<w.heap.size:=World.block_lt_of_cell? w _ hc
 have hne:b≠w.heap.size:=by omega
 obtain⟨s,n,c,rfl,hn,h1,h2,hg⟩:=hl.get
 rw[zat] at hn
 obtain⟨g2,g3⟩:=zb9 l k hk
 obtain⟨ad,rfl,d0⟩:=hg _ _ g2
 obtain⟨a',e',d1⟩:=hg _ _ g3
 cases e'
 obtain⟨_,hdl⟩:=hd l[k] (List.getElem_mem _)
 have hsz:(bs l[k].d).size=l[k].d.length:=zae _
 generalize l[k]=f at *
 have d1:=zao d1
 have x1:(0:Int)≤k:=by omega
 have x2:(k:Int).toNat=k:=by omega
 have x3:(k:Int)<n:=by omega
 unfold maxLen at h2 hdl
 have hlt:=World.block_lt_of_cell? w _ d0
 have HSZ:=hid hsz
 have HBL:=hid (zag w (.cells #[.string ⟨#[]⟩,.int .i64 0,.int .u32 0] 173))
 clear hl hg g2 g3 hd
 go_enter Tryz.func127,Tryz.ntmps127
 go_wp2_with fail
 have e0:(w.alloc (.cells #[.string ⟨#[]⟩,.int .i64 0,.int .u32 0] 173)).cell? ⟨b,0,none⟩=some (.slice (some ad) n c):=(HBL.out.cell (p:=⟨b,0,none⟩) hb).trans hc
 have e1:=(HBL.out.cell (p:=ad.add (k * 2)) hlt).trans d0
 have e2:=(HBL.out.cell (p:=⟨(ad.add (k * 2)).block,(ad.add (k * 2)).off+(0+1),none⟩) hlt).trans d1
 have hnew:=heap_alloc_new w (.cells #[.string ⟨#[]⟩,.int .i64 0,.int .u32 0] 173)
 generalize w.alloc (.cells #[.string ⟨#[]⟩,.int .i64 0,.int .u32 0] 173)=W0 at *
 clear hc d0 d1 hsz
 have hlit:∀t d o u (a:Addr),({heap:=W0.heap,tape:=t,drawn:=d,os:=o,output:=u}:World).cell? a=W0.cell? a:=fun _ _ _ _ _=>rfl
 go_still_tail 12,(by kernel_rfl)
 clear hlit
 change wpList _ _ _ _ _ (World.drew W0)
 have hnew':(World.drew W0).heap[w.heap.size]?=some (.cells #[.string ⟨#[]⟩,.int .i64 0,.int .u32 0] 173 (0,0)):=hnew
 have HBD:=hid (show Below w.heap.size w (World.drew W0) from zac HBL.out 1)
 generalize World.drew W0=W1 at *
 clear e0 e1 e2 hnew HBL
 obtain⟨q0,q1,q2,z0,z1,z2⟩:=yfk hnew'
 go_wp2_with fail
 have HW:=hid (yj4 (x:=(.string (bs f.n))) (y:=(.int .i64 (f.d.length:Int))) (z:=(.int .u32 0)) hnew')
 have BW:=hid (((HBD.out.setCell (p:=⟨w.heap.size,0,none⟩) (Nat.le_refl _) (.string (bs f.n))).setCell (p:=⟨w.heap.size,1,none⟩) (Nat.le_refl _) (.int .i64 (f.d.length:Int))).setCell (p:=⟨w.heap.size,2,none⟩) (Nat.le_refl _) (.int .u32 0))
 generalize ((W1.setCell ⟨w.heap.size,0,none⟩ (.string (bs f.n))).setCell ⟨w.heap.size,1,none⟩ (.int .i64 (f.d.length:Int))).setCell ⟨w.heap.size,2,none⟩ (.int .u32 0)=W2 at *
 obtain⟨r0,r1,r2,_,_,_⟩:=yfk HW.out
 exact bodyPost_ret (by simp[results,Tryz.results127,go_sem,r0,r1,r2];try rfl) rfl ⟨rfl,BW.out⟩
theorem znz(w:World)(v:Value)(t:TypeId):Below w.heap.size w (w.alloc (.cells #[v] t)):=zag w _
theorem zdf(E:Nat→Addr)(l:List PF)(v:Value)(w:World)(hl:SliceIs w v 2 (zah l))(hd:FOk l)(hlen:l.length≤1000000000)(hB:Has E w 2)(hN:Has E w 5)(hF:Has E w 8)(hO:Has E w 9):
  Calls Tryz.prog 89 #[v] w fun e w'=>∃r,e=.returned r∧FErr E w' r (zav l).1 (zav l).2∧Below w.heap.size w w':=by
 obtain⟨s,n,c,rfl,hn,h1,h2,hg⟩:=hl.get
 rw[zat] at hn
 obtain rfl:n=l.length:=by omega
 have B0:=hid (znz w (.slice s l.length c) 33)
 have key:=zj7 E (l.map PF.chk) 127 #[.pointer (some ⟨w.heap.size,0,none⟩)] yk2 (w.alloc (.cells #[.slice s l.length c] 33)) (by simpa using hlen)
  (fun x hx=>by obtain⟨f,hf,rfl⟩:=List.mem_map.1 hx;exact(hd f hf).1)
  (fun W k hk hb=>by
   have hk':k<l.length:=by simpa using hk
   have:=ylk l (.slice s l.length c) w.heap.size k W hk' ((hb.cell (p:=⟨w.heap.size,0,none⟩) (by simp)).trans (by simp)) ((hl.below B0.out).below hb) hd
   simpa [PF.chk] using this)
  (hB.below B0.out) (hN.below B0.out) (hF.below B0.out) (hO.below B0.out)
 rw[List.length_map] at key
 have KEY:=hid key
 have HFF:=hid (show zav l=zbb (l.map PF.chk) from rfl)
 unfold maxLen at h2
 clear key hl hg hB hN hF hO
 go_enter Tryz.func89,Tryz.ntmps89
 go_wp2_with fail
 refine KEY.out.mono ?_
 rintro e w1⟨r,rfl,fe,b1⟩
 have BB:=hid (zaa B0.out b1)
 have FE:=hid fe
 clear fe b1 KEY
 go_wp2_with fail
 go_ret
 exact⟨_,rfl,by rw[HFF.out];exact FE.out,BB.out⟩
def PL.vals(x:PL):List Value:=[.string (bs x.n),.int .i64 x.N,.int .u32 x.S]
def zau(l:List PL):List Value:=l.flatMap PL.vals
theorem zic:zau []=[]:=rfl
theorem znd(x:PL)(l:List PL):zau (x::l)=[.string (bs x.n),.int .i64 x.N,.int .u32 x.S]++zau l:=rfl
theorem zdr(l m:List PL):zau (l++m)=zau l++zau m:=by unfold zau;exact List.flatMap_append
theorem zkv(x:PL):zau [x]=[.string (bs x.n),.int .i64 x.N,.int .u32 x.S]:=rfl
theorem zcf(l:List PL):(zau l).length=l.length * 3:=by
 induction l with
 | nil=>rfl
 | cons k l ih=>rw[znd,List.length_append,ih];simp;omega
theorem zd8(l:List PL)(k:Nat)(h:k<l.length):(zau l)[k * 3]?=some (.string (bs l[k].n))∧(zau l)[k * 3+1]?=some (.int .i64 l[k].N)∧(zau l)[k * 3+2]?=some (.int .u32 l[k].S):=by
 induction l generalizing k with
 | nil=>simp at h
 | cons o l ih=>
  rw[znd]
  match k with
  | 0=>exact⟨rfl,rfl,rfl⟩
  | k+1=>
   obtain⟨h1,h2,h3⟩:=ih k (by simpa using h)
   refine⟨?_,?_,?_⟩
   ·rw[show(k+1) * 3=3+k * 3 by omega];rw[List.getElem?_append_right (by simp)];simpa using h1
   ·rw[show(k+1) * 3+1=3+(k * 3+1) by omega];rw[List.getElem?_append_right (by simp)];simpa using h2
   ·rw[show(k+1) * 3+2=3+(k * 3+2) by omega];rw[List.getElem?_append_right (by simp)];simpa using h3
theorem yk0:∀args w,(callFunc 178 args).run Tryz.prog w=.ok (.enter 178 args) w:=enters_of Tryz.func178 (by kernel_rfl) rfl
theorem yj0(l:List PL)(v:Value)(b k:Nat)(w:World)(hk:k<l.length)(hc:w.cell? ⟨b,0,none⟩=some v)(hl:SliceIs w v 3 (zau l)):
  Calls Tryz.prog 178 #[.int .i64 k,.pointer (some ⟨b,0,none⟩)] w fun e w'=>e=.returned (.agg #[.string (bs l[k].n),.int .i64 l[k].N,.int .u32 l[k].S])∧Below w.heap.size w w':=by
 have hb:b<w.heap.size:=World.block_lt_of_cell? w _ hc
 have hne:b≠w.heap.size:=by omega
 obtain⟨s,n,c,rfl,hn,h1,h2,hg⟩:=hl.get
 rw[zcf] at hn
 obtain⟨g2,g3,g4⟩:=zd8 l k hk
 obtain⟨ad,rfl,d0⟩:=hg _ _ g2
 obtain⟨a',e',d1⟩:=hg _ _ g3
 cases e'
 obtain⟨a',e',d2⟩:=hg _ _ g4
 cases e'
 generalize l[k]=f at *
 have d1:=zao d1
 have d2:=zao d2
 have x1:(0:Int)≤k:=by omega
 have x2:(k:Int).toNat=k:=by omega
 have x3:(k:Int)<n:=by omega
 unfold maxLen at h2
 have hlt:=World.block_lt_of_cell? w _ d0
 have HBD:=hid (zag w (.cells #[.string (bs f.n),.int .i64 f.N,.int .u32 f.S] 173))
 clear hl hg g2 g3 g4
 go_enter Tryz.func178,Tryz.ntmps178
 go_wp2_with fail
 go_returns
 exact⟨rfl,HBD.out⟩
theorem zgz(E:Nat→Addr)(l:List PL)(v:Value)(w:World)(hl:SliceIs w v 3 (zau l))(hd:∀x∈l,x.n.length≤maxLen)(hlen:l.length≤1000000000)(hB:Has E w 2)(hN:Has E w 5)(hF:Has E w 8)(hO:Has E w 9):
  Calls Tryz.prog 141 #[v] w fun e w'=>∃r,e=.returned r∧FErr E w' r (zbb l).1 (zbb l).2∧Below w.heap.size w w':=by
 obtain⟨s,n,c,rfl,hn,h1,h2,hg⟩:=hl.get
 rw[zcf] at hn
 obtain rfl:n=l.length:=by omega
 have B0:=hid (znz w (.slice s l.length c) 169)
 have key:=zj7 E l 178 #[.pointer (some ⟨w.heap.size,0,none⟩)] yk0 (w.alloc (.cells #[.slice s l.length c] 169)) hlen hd
  (fun W k hk hb=>yj0 l (.slice s l.length c) w.heap.size k W hk ((hb.cell (p:=⟨w.heap.size,0,none⟩) (by simp)).trans (by simp)) ((hl.below B0.out).below hb))
  (hB.below B0.out) (hN.below B0.out) (hF.below B0.out) (hO.below B0.out)
 have KEY:=hid key
 unfold maxLen at h2
 clear key hl hg hB hN hF hO
 go_enter Tryz.func141,Tryz.ntmps141
 go_wp2_with fail
 refine KEY.out.mono ?_
 rintro e w1⟨r,rfl,fe,b1⟩
 have BB:=hid (zaa B0.out b1)
 have FE:=hid fe
 clear fe b1 KEY
 go_wp2_with fail
 go_ret
 exact⟨_,rfl,FE.out,BB.out⟩
theorem zye{l:List PF}{n:List UInt8}{k:Nat}(h:k<l.length)(e:l[k].n=n):zaq (l.drop k) n=some l[k].d:=by
 unfold zaq;rw[List.drop_eq_getElem_cons h,List.find?_cons_of_pos (by simp[e])];rfl
theorem ygp{l:List PF}{n:List UInt8}{k:Nat}(h:k<l.length)(e:l[k].n≠n):zaq (l.drop k) n=zaq (l.drop (k+1)) n:=by
 unfold zaq;rw[List.drop_eq_getElem_cons h,List.find?_cons_of_neg (by simp[e])]
theorem zyf{l:List PF}{n:List UInt8}{k:Nat}(h:l.length≤k):zaq (l.drop k) n=none:=by rw[List.drop_of_length_le h];rfl
theorem zpc(l:List PF)(n:List UInt8):zaq l n=zaq (l.drop 0) n:=rfl
theorem zen(l:List PF)(v:Value)(n:List UInt8)(w:World)(hl:SliceIs w v 2 (zah l)):
  Calls Tryz.prog 96 #[v,.string (bs n)] w fun e w'=>e=.returned (.tuple #[.string (bs ((zaq l n).getD [])),.bool (zaq l n).isSome])∧Below w.heap.size w w':=by
 obtain⟨s,m,c,rfl,hn,h1,h2,hg⟩:=hl.get
 rw[zat] at hn
 obtain rfl:m=l.length:=by omega
 unfold maxLen at h2
 have HSL:=hid hl
 have HS:=hid (zpc l n)
 generalize zaq l n=r at *
 clear hl hg
 go_enter Tryz.func96,Tryz.ntmps96
 go_wp2_with fail
 go_loopw [10,7] (fun i _ wr=>∃k:Nat,i=.int .i64 k∧k≤l.length∧r=zaq (l.drop k) n∧Below w.heap.size w wr) (fun i _ _=>l.length - (intOf i).toNat)
 case atStart=>exact⟨0,rfl,by omega,HS.out,Below.refl _ _⟩
 case round=>
  obtain⟨k,rfl,hk,hr,bel⟩:=hrel
  have HR:=hid hr
  clear hr
  by_cases hlt:k<l.length
  ·have hltI:(k:Int)<l.length:=by omega
   obtain⟨s0',n0',c0',e1,_,_,_,g1⟩:=(HSL.out.below bel).get
   cases e1
   obtain⟨g2,g3⟩:=zb9 l k hlt
   obtain⟨ad,rfl,d0⟩:=g1 _ _ g2
   obtain⟨a',e',d1⟩:=g1 _ _ g3
   cases e'
   clear g1 g2 g3
   have YES:=hid (fun h=>HR.out.trans (zye (n:=n) hlt h))
   have NO:=hid (fun h=>HR.out.trans (ygp (n:=n) hlt h))
   have KK:=hid (show k+1≤l.length by omega)
   have x1:(0:Int)≤k:=by omega
   have x2:(k:Int).toNat=k:=by omega
   generalize l[k]=x at d0 d1 YES NO
   have d1:=zao d1
   by_cases hx:x.n=n
   ·have hb:((bs x.n).toList==(bs n).toList)=true:=by rw[za4,za4];simpa using hx
    have Y:=hid (YES.out hx)
    clear YES NO hx
    go_wp2_with fail
    go_ret2
    exact⟨by rw[Y.out];rfl,bel.alloc bel.size _⟩
   ·have hb:((bs x.n).toList==(bs n).toList)=false:=by rw[za4,za4];simpa using hx
    have Y:=hid (NO.out hx)
    clear YES NO hx
    go_wp2_with fail
    go_roundw
    case rel=>exact⟨k+1,by go_num,KK.out,Y.out,bel.alloc bel.size _⟩
    case measure=>simp[intOf];omega
  ·have hltI:¬(k:Int)<l.length:=by omega
   have Y:=hid (HR.out.trans (zyf (n:=n) (by omega:l.length≤k)))
   go_wp2_with fail
   go_ret2
   exact⟨by rw[Y.out,show(none:Option (List UInt8)).getD []=[] from rfl,show bs []=⟨#[]⟩ by unfold bs;rfl];rfl,bel⟩
theorem zj1:(Tryz.prog.info? 126).map (fun i=>(i.zero,i.size,i.bytes))=some (some (.agg #[.string ⟨#[]⟩,.string ⟨#[]⟩]),2,32):=by kernel_rfl
theorem yel{w:World}{base:Nat}{e:TypeId}{size:Nat}{v:Value}{m:Nat}{xs:List Value}(h:w.ownsRow base e size v (0+m) ([]++xs)):w.ownsRow base e size v m xs:=by simpa using h
theorem zde(l:List PF)(v:Value)(w:World)(hl:SliceIs w v 2 (zah l))(hlen:l.length≤1000000):
  Calls Tryz.prog 90 #[v] w fun e w'=>∃r,e=.returned r∧w'.ownsRow w.heap.size 126 2 r l.length (zah l)∧Below w.heap.size w w':=by
 obtain⟨i0,hi,hz0,hz1,hz2⟩:=info_parts zj1
 have HL:=hid hl
 have LEN:=hid (zat l)
 obtain⟨s,n,c,rfl,hn,_⟩:=hl.get
 have hnl:l.length=n:=by rw[zat] at hn;omega
 cases s with
 | none=>
  obtain⟨rfl,rfl⟩:n=0∧c=0:=by
   rcases hl with⟨h,_⟩|⟨a,len,cap,h,_⟩
   ·cases h;exact⟨rfl,rfl⟩
   ·cases h
  have he:l=[]:=List.eq_nil_of_length_eq_zero (by omega)
  have HO:=hid (World.ownsRow_nil w w.heap.size 126 2)
  subst he
  have HB:=hid (Below.refl w.heap.size w)
  have hq:∀w,(binOp .eql 33 (.slice none 0 0) (.slice none 0 0)).run Tryz.prog w=.ok (.bool true) w:=fun w=>Lib.run_eql_slice_nil w _ _ none 0 0 0 0 Tryz.underlying33
  clear hl hn hnl
  go_enter Tryz.func90,Tryz.ntmps90
  go_wp2_with fail
  go_ret
  exact⟨_,rfl,HO.out,HB.out⟩
 | some a=>
  have hq:∀w,(binOp .eql 33 (.slice (some a) n c) (.slice none 0 0)).run Tryz.prog w=.ok (.bool false) w:=fun w=>Lib.run_eql_slice_nil w _ _ (some a) n c 0 0 Tryz.underlying33
  have HN1:Hid (0+l.length≤maxLen):=by show _≤_;unfold maxLen;omega
  have HN2:Hid ((0+l.length) * 32≤140737488355328):=by show _≤_;omega
  have SR:=hid (HL.out.below (zag w (.cells #[] 126)))
  have OM:=hid (World.ownsRow_made (base:=w.heap.size) (e:=126) (size:=2) (w:=w) #[] 0 (Nat.le_refl _) (by decide) rfl)
  have B1:=hid (zag w (.cells #[] 126))
  clear hl hn hnl
  go_enter Tryz.func90,Tryz.ntmps90
  go_wp2_with (at_builtin;refine zak rfl _ _ 33 rfl w.heap.size 126 i0 _ 2 32 Tryz.underlying33 hi hz0 hz1 hz2 rfl (by decide) (.slice (some ⟨w.heap.size,0,none⟩) 0 0) 0 [] rfl OM.out _ l.length _ rfl SR.out LEN.out (zea l) HN1.out HN2.out B1.out.size ?_;intro v' w5 hown hgrow _;have HO:=hid (yel hown);have HB:=hid (B1.out.grown hgrow B1.out.size (fun j hj=>by simp[Value.ownBlock] at hj;omega));clear hown hgrow)
  go_ret
  exact⟨_,rfl,HO.out,HB.out⟩
end Go.Proofs.YtakhkcaihhpehaaGreatDoor
