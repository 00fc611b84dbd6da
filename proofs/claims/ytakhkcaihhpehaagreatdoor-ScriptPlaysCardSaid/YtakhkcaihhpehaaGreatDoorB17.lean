/- Texts of one proof, one behind the other: FilFind, FilStep. -/
import Derived.Test.YtakhkcaihhpehaaGreatDoorB15
import Derived.Test.YtakhkcaihhpehaaGreatDoorB16
import Derived.Test.YtakhkcaihhpehaaGreatDoorB06
import Derived.Test.YtakhkcaihhpehaaGreatDoorB03
import Derived.Laws.StructEq
namespace Go.Proofs.YtakhkcaihhpehaaGreatDoor
open Go.RowKit
open Lib (hid)
set_option linter.unusedVariables false
set_option maxRecDepth 100000
set_option maxHeartbeats 51200000
theorem zvv{l:List PF}{n:List UInt8}(hs:l.Pairwise fun a b=>ltL a.n b.n=true){a:Nat}(ha:a<l.length)(h1:ltL l[a].n n=false)(h2:∀k (h:k<l.length),k<a→ltL l[k].n n=true):(zaq l n).isSome=(l[a].n==n):=by
 cases hg:zaq l n with
 | some d=>
  have hm:=zbn hg
  obtain⟨j,hj,hje⟩:=List.getElem_of_mem hm
  have hjn:l[j].n=n:=by rw[hje]
  have:a=j:=by
   rcases Nat.lt_trichotomy a j with h|h|h
   ·have h3:=List.pairwise_iff_getElem.1 hs a j ha hj h
    rw[hjn,h1] at h3;cases h3
   ·exact h
   ·have:=h2 j hj h
    rw[hjn,zbv] at this;cases this
  subst this
  simp[hjn]
 | none=>
  have:=zpd hg l[a] (List.getElem_mem _)
  simp[this]
theorem zvw{l:List PF}{n:List UInt8}(hs:l.Pairwise fun a b=>ltL a.n b.n=true){a:Nat}(ha:l.length≤a)(h2:∀k (h:k<l.length),k<a→ltL l[k].n n=true):(zaq l n).isSome=false:=by
 cases hg:zaq l n with
 | none=>rfl
 | some d=>
  obtain⟨j,hj,hje⟩:=List.getElem_of_mem (zbn hg)
  have h3:=h2 j hj (by omega)
  rw[hje,zbv] at h3;cases h3
theorem ygu:∀args w,(callFunc 129 args).run Tryz.prog w=.ok (.enter 129 args) w:=enters_of Tryz.func129 (by kernel_rfl) rfl
theorem ztl(f:PF)(n:List UInt8)(w:World):
  Calls Tryz.prog 129 #[.agg #[.string (bs f.n),.string (bs f.d)],.string (bs n)] w fun e w'=>e=.returned (.int .i64 (Lib.compareBytes f.n n))∧Below w.heap.size w w':=by
 have HB:=hid (zag w (.cells #[.string (bs f.n),.string (bs f.d)] 126))
 have CM:=hid (fun w'=>Tryz.strings_Compare (bs f.n) (bs n) w')
 simp only[zai] at CM
 go_enter Tryz.func129,Tryz.ntmps129
 go_wp2_with fail
 refine(CM.out _).mono ?_
 rintro e w1⟨rfl,rfl⟩
 go_wp2_with fail
 go_ret
 exact⟨rfl,HB.out⟩
theorem ypg(l:List PF)(v:Value)(n:List UInt8)(w:World)(hl:SliceIs w v 2 (zah l))(hs:l.Pairwise fun a b=>ltL a.n b.n=true)(hlen:l.length≤1000000):
  Calls Tryz.prog 128 #[v,.string (bs n),.func (.func 129) #[] #[]] w fun e w'=>e=.returned (.tuple #[.int .i64 (zby l n),.bool (zaq l n).isSome])∧Below w.heap.size w w':=by
 obtain⟨s,m,c,rfl,hn,h1,h2,hg⟩:=hl.get
 rw[zat] at hn
 obtain rfl:m=l.length:=by omega
 unfold maxLen at h2
 have HSL:=hid hl
 have HS:=hid hs
 have eg:=ygu
 clear hl hg hs
 go_enter Tryz.func128,Tryz.ntmps128
 go_wp2_with fail
 go_loopw [9,10,11] (fun i j _ wr=>∃a b:Nat,i=.int .i64 a∧j=.int .i64 b∧a≤b∧b≤l.length∧(∀k (h:k<l.length),k<a→ltL l[k].n n=true)∧(∀k (h:k<l.length),b≤k→ltL l[k].n n=false)∧Below w.heap.size w wr) (fun i j _ _=>(intOf j).toNat - (intOf i).toNat)
 case atStart=>exact⟨0,l.length,rfl,rfl,by omega,by omega,fun k _ hk=>by omega,fun k h hk=>by omega,Below.refl _ _⟩
 case round=>
  obtain⟨a,b,rfl,rfl,hab,hb,hlo,hhi,bel⟩:=hrel
  have HLO:=hid hlo
  have HHI:=hid hhi
  clear hlo hhi
  by_cases hlt:a<b
  ·have hltI:(a:Int)<b:=by omega
   obtain⟨mid,hmid⟩:∃q:Nat,q=(a+b) / 2:=⟨_,rfl⟩
   have hm1:a≤mid:=by omega
   have hm2:mid<b:=by omega
   have hml:mid<l.length:=by omega
   obtain⟨s0',n0',c0',e1,_,_,_,g1⟩:=(HSL.out.below bel).get
   cases e1
   obtain⟨g2,g3⟩:=zb9 l mid hml
   obtain⟨ad,rfl,d0⟩:=g1 _ _ g2
   obtain⟨a',e',d1⟩:=g1 _ _ g3
   cases e'
   clear g1 g2 g3
   have CL:=hid (ztl l[mid] n wr)
   have hw:IntKind.i64.wrap ((a:Int)+b)=(a:Int)+b:=IntWalk.i64_in _ (by omega)
   have hq:((a:Int)+b) / 2=(mid:Int):=by omega
   have d1:=zao d1
   have y1:(0:Int)≤mid:=by omega
   have y2:(mid:Int).toNat=mid:=by omega
   have y3:(mid:Int)<l.length:=by omega
   have LOW:=hid (fun(h:ltL l[mid].n n=true)=>show ∀k (h:k<l.length),k<mid+1→ltL l[k].n n=true from fun k hk hkm=>by
    by_cases e:k=mid
    ·subst e;exact h
    ·have:=List.pairwise_iff_getElem.1 HS.out k mid hk hml (by omega)
     exact zbq this h)
   have HIG:=hid (fun(h:ltL l[mid].n n=false)=>show ∀k (h:k<l.length),mid≤k→ltL l[k].n n=false from fun k hk hkm=>by
    by_cases e:k=mid
    ·subst e;exact h
    ·have h2:=List.pairwise_iff_getElem.1 HS.out mid k hml hk (by omega)
     cases h3:ltL l[k].n n with
     | false=>rfl
     | true=>rw[zbq h2 h3] at h;cases h)
   generalize l[mid]=x at d0 d1 CL LOW HIG
   clear hmid
   by_cases hx:ltL x.n n=true
   ·have hcI:Lib.compareBytes x.n n<0:=(zph _ _).2 hx
    generalize Lib.compareBytes x.n n=cc at *
    have L:=hid (LOW.out hx)
    clear LOW HIG hx
    go_wp2_with fail
    refine CL.out.mono ?_
    rintro e w1⟨rfl,b1⟩
    go_wp2_with fail
    go_roundw
    case rel=>exact⟨mid+1,b,by go_num,rfl,by omega,hb,L.out,HHI.out,zaa bel b1⟩
    case measure=>simp[intOf];omega
   ·have hcI:¬Lib.compareBytes x.n n<0:=fun h=>hx ((zph _ _).1 h)
    have hxf:ltL x.n n=false:=by simpa using hx
    generalize Lib.compareBytes x.n n=cc at *
    have L:=hid (HIG.out hxf)
    clear LOW HIG hx hxf
    go_wp2_with fail
    refine CL.out.mono ?_
    rintro e w1⟨rfl,b1⟩
    go_wp2_with fail
    go_roundw
    case rel=>exact⟨a,mid,rfl,rfl,hm1,by omega,HLO.out,L.out,zaa bel b1⟩
    case measure=>simp[intOf];omega
  ·have hltI:¬(a:Int)<b:=by omega
   obtain rfl:a=b:=by omega
   have hpl:=zxe HS.out hb HLO.out HHI.out
   have HPL:=hid hpl
   by_cases hal:a<l.length
   ·have halI:(a:Int)<l.length:=by omega
    obtain⟨s0',n0',c0',e1,_,_,_,g1⟩:=(HSL.out.below bel).get
    cases e1
    obtain⟨g2,g3⟩:=zb9 l a hal
    obtain⟨ad,rfl,d0⟩:=g1 _ _ g2
    obtain⟨a',e',d1⟩:=g1 _ _ g3
    cases e'
    clear g1 g2 g3
    have CL:=hid (ztl l[a] n wr)
    have d1:=zao d1
    have y1:(0:Int)≤a:=by omega
    have y2:(a:Int).toNat=a:=by omega
    have GET:=hid (zvv HS.out hal (HHI.out a hal (Nat.le_refl _)) HLO.out)
    generalize l[a]=x at d0 d1 CL GET
    have hbb:(Lib.compareBytes x.n n==0)=(x.n==n):=by
     by_cases e:x.n=n
     ·rw[e,zyp];simp
     ·have:=fun h=>e ((ybs x.n n).1 h)
      rw[beq_eq_false_iff_ne.2 this,beq_eq_false_iff_ne.2 e]
    have HBB:=hid hbb
    generalize Lib.compareBytes x.n n=cc at *
    clear hpl hbb
    go_wp2_with fail
    refine CL.out.mono ?_
    rintro e w1⟨rfl,b1⟩
    go_wp2_with fail
    go_ret2
    exact⟨by rw[←HPL.out,GET.out,←HBB.out];rfl,zaa bel b1⟩
   ·have halI:¬(a:Int)<l.length:=by omega
    have halD:decide ((a:Int)<l.length)=false:=by simpa using halI
    have GET:=hid (zvw HS.out (by omega:l.length≤a) HLO.out)
    clear hpl
    go_wp2_with fail
    go_ret2
    exact⟨by rw[←HPL.out,GET.out];rfl,bel⟩
def PS.val(s:PS):Value:=.agg #[.string (bs s.k),.string (bs s.n)]
theorem PS.val_is(s:PS):s.val=.agg #[.string (bs s.k),.string (bs s.n)]:=rfl
attribute [irreducible] PS.val
theorem zdw:bs zaz=⟨#[115,101,110,100]⟩:=by unfold bs zaz;rfl
theorem zim:bs zds=⟨#[100,114,111,112]⟩:=by unfold bs zds;rfl
theorem zkc:bs zg7=⟨#[107,101,101,112]⟩:=by unfold bs zg7;rfl
theorem yii(y:PL)(t:List PL):zbg [] (y::t)=(⟨zds,y.n⟩,0,1):=rfl
theorem yih(x:PL)(a:List PL):zbg (x::a) []=(⟨zaz,x.n⟩,1,0):=rfl
theorem ynj{x y:PL}{a t:List PL}(h:ltL x.n y.n=true):zbg (x::a) (y::t)=(⟨zaz,x.n⟩,1,0):=by simp only[zbg];rw[if_pos h]
theorem ynk{x y:PL}{a t:List PL}(h:ltL y.n x.n=true):zbg (x::a) (y::t)=(⟨zds,y.n⟩,0,1):=by simp only[zbg];rw[if_neg (by rw[zco h];simp),if_pos h]
theorem yci{x y:PL}{a t:List PL}(h:x=y):zbg (x::a) (y::t)=(⟨zg7,x.n⟩,1,1):=by subst h;simp only[zbg];rw[if_neg (by simp[zbv]),if_neg (by simp[zbv])];simp
theorem yij{x y:PL}{a t:List PL}(h:x≠y)(hn:x.n=y.n):zbg (x::a) (y::t)=(⟨zaz,x.n⟩,1,1):=by simp only[zbg];rw[if_neg (by rw[hn,zbv];simp),if_neg (by rw[hn,zbv];simp),if_neg h]
theorem zgv{w:World}{v:Value}{x:PL}{l:List PL}(h:SliceIs w v 3 (zau (x::l))):
  ∃a n c,v=.slice (some a) n c∧n=l.length+1∧n≤c∧c≤maxLen∧w.cell? a=some (.string (bs x.n))∧w.cell? (a.add 1)=some (.int .i64 x.N)∧w.cell? (a.add 2)=some (.int .u32 x.S):=by
 obtain⟨s,n,c,rfl,hn,h1,h2,hg⟩:=h.get
 rw[zcf,List.length_cons] at hn
 obtain⟨g0,g1,g2⟩:=zd8 (x::l) 0 (by simp)
 obtain⟨a,rfl,d0⟩:=hg _ _ g0
 obtain⟨a',e,d1⟩:=hg _ _ g1
 cases e
 obtain⟨a',e,d2⟩:=hg _ _ g2
 cases e
 have e0:a.add 0=a:=by cases a;rfl
 rw[Nat.zero_mul,e0] at d0
 exact⟨a,n,c,rfl,by omega,h1,h2,d0,by simpa using d1,by simpa using d2⟩
theorem znc{w:World}{v:Value}(h:SliceIs w v 3 (zau [])):∃s c,v=.slice s 0 c∧c≤maxLen:=by
 obtain⟨s,n,c,rfl,hn,h1,h2,hg⟩:=h.get
 rw[zcf,List.length_nil] at hn
 obtain rfl:n=0:=by omega
 exact⟨s,c,rfl,h2⟩
theorem yq4(s s':ByteArray)(n n':Int)(c c':Nat)(w:World):(Op.equalIn 10000 173 (.agg #[.string s,.int .i64 n,.int .u32 c]) (.agg #[.string s',.int .i64 n',.int .u32 c'])).run Tryz.prog w=
  if s.toList=s'.toList∧n=n'∧c=c' then .ok true w else .ok false w:=by
 have u3:=Tryz.underlying3
 have u5:=Tryz.underlying136
 have u9:=Tryz.underlying9
 have hS:Tryz.prog.underlying 173=some (.struct (Tryz.prog.fieldsOf 173)):=by kernel_rfl
 rw[show(10000:Nat)=9999+1 from rfl,run_equalIn_agg w 9999 173 _ _ hS (by kernel_rfl)]
 simp only[Program.fieldsOf,Tryz.underlying173]
 go_simp
 have hk:((c:Int)=(c':Int))↔c=c':=by omega
 simp only[hk]
 by_cases h1:s.toList=s'.toList<;>by_cases h2:n=n'<;>by_cases h3:c=c'<;>simp[h1,h2,h3]
theorem yoc(x:PL)(w:World):(Op.equalIn 10000 173 (.agg #[.string (bs x.n),.int .i64 x.N,.int .u32 x.S]) (.agg #[.string (bs x.n),.int .i64 x.N,.int .u32 x.S])).run Tryz.prog w=.ok true w:=by
 rw[yq4,if_pos ⟨rfl,rfl,rfl⟩]
theorem yj2{x y:PL}(h:x≠y)(w:World):(Op.equalIn 10000 173 (.agg #[.string (bs x.n),.int .i64 x.N,.int .u32 x.S]) (.agg #[.string (bs y.n),.int .i64 y.N,.int .u32 y.S])).run Tryz.prog w=.ok false w:=by
 rw[yq4,if_neg]
 rintro⟨h1,h2,h3⟩
 rw[za4,za4] at h1
 exact h (by cases x;cases y;simp_all)
theorem yj1(x:PL)(w:World):(binOp .eql 173 (.agg #[.string (bs x.n),.int .i64 x.N,.int .u32 x.S]) (.agg #[.string (bs x.n),.int .i64 x.N,.int .u32 x.S])).run Tryz.prog w=.ok (.bool true) w:=by
 have h:=yoc x w
 go_simp
theorem yfg{x y:PL}(h:x≠y)(w:World):(binOp .eql 173 (.agg #[.string (bs x.n),.int .i64 x.N,.int .u32 x.S]) (.agg #[.string (bs y.n),.int .i64 y.N,.int .u32 y.S])).run Tryz.prog w=.ok (.bool false) w:=by
 have h2:=yj2 h w
 go_simp
theorem ycj(y:PL)(t:List PL)(v1 v2:Value)(w:World)(h1:SliceIs w v1 3 (zau []))(h2:SliceIs w v2 3 (zau (y::t))):
  Calls Tryz.prog 142 #[v1,v2] w fun e w'=>e=.returned (.tuple #[PS.val ⟨zds,y.n⟩,.int .i64 0,.int .i64 1])∧Below w.heap.size w w':=by
 obtain⟨s1,c1,rfl,k1⟩:=znc h1
 obtain⟨a2,n2,c2,rfl,hn2,k2,m2,d0,d1,d2⟩:=zgv h2
 rw[PS.val_is,zim]
 unfold maxLen at m2 k1
 have x0:(0:Int)<n2:=by omega
 have x1:¬(n2:Int)=0:=by omega
 have x2:((n2:Int)==0)=false:=by rw[beq_eq_false_iff_ne];exact x1
 have D0:=fun o=>zeq d0 (zag w o)
 clear h1 h2 hn2
 go_enter Tryz.func142,Tryz.ntmps142
 go_wp2_with fail
 go_returns
 exact⟨rfl,zag _ _⟩
theorem zzc(x:PL)(a:List PL)(v1 v2:Value)(w:World)(h1:SliceIs w v1 3 (zau (x::a)))(h2:SliceIs w v2 3 (zau [])):
  Calls Tryz.prog 142 #[v1,v2] w fun e w'=>e=.returned (.tuple #[PS.val ⟨zaz,x.n⟩,.int .i64 1,.int .i64 0])∧Below w.heap.size w w':=by
 obtain⟨a2,n2,c2,rfl,hn2,k2,m2,d0,d1,d2⟩:=zgv h1
 obtain⟨s1,c1,rfl,k1⟩:=znc h2
 rw[PS.val_is,zdw]
 unfold maxLen at m2 k1
 have x0:(0:Int)<n2:=by omega
 have x1:¬(n2:Int)=0:=by omega
 have x2:((n2:Int)==0)=false:=by rw[beq_eq_false_iff_ne];exact x1
 have D0:=fun o=>zeq d0 (zag w o)
 clear h1 h2 hn2
 go_enter Tryz.func142,Tryz.ntmps142
 go_wp2_with fail
 go_returns
 exact⟨rfl,zag _ _⟩
theorem yiq{w:World}{b:Nat}{x y:Value}{t:TypeId}(h:w.heap[b]?=some (.cells #[x,y] t (0,0)))(u v:Value):
  ((w.setCell ⟨b,0,none⟩ u).setCell ⟨b,1,none⟩ v).cell? ⟨b,0,none⟩=some u∧((w.setCell ⟨b,0,none⟩ u).setCell ⟨b,1,none⟩ v).cell? ⟨b,1,none⟩=some v:=by
 have h1:=za2 (k:=0) (u:=u) h
 have h2:=za2 (k:=1) (u:=v) h1
 constructor
 ·simp[World.cell?,h2]
 ·simp[World.cell?,h2]
theorem yck(x y:PL)(a t:List PL)(v1 v2:Value)(w:World)(h1:SliceIs w v1 3 (zau (x::a)))(h2:SliceIs w v2 3 (zau (y::t))):
  Calls Tryz.prog 142 #[v1,v2] w fun e w'=>e=.returned (.tuple #[PS.val (zbg (x::a) (y::t)).1,.int .i64 (zbg (x::a) (y::t)).2.1,.int .i64 (zbg (x::a) (y::t)).2.2])∧Below w.heap.size w w':=by
 obtain⟨a1,n1,c1,rfl,hn1,k1,m1,d0,d1,d2⟩:=zgv h1
 obtain⟨a2,n2,c2,rfl,hn2,k2,m2,e0,e1,e2⟩:=zgv h2
 unfold maxLen at m1 m2
 have x0:(0:Int)<n1:=by omega
 have x1:¬(n1:Int)=0:=by omega
 have x2:((n1:Int)==0)=false:=by rw[beq_eq_false_iff_ne];exact x1
 have y0:(0:Int)<n2:=by omega
 have y1:¬(n2:Int)=0:=by omega
 have y2:((n2:Int)==0)=false:=by rw[beq_eq_false_iff_ne];exact y1
 have B0:=hid (zag w (.cells #[.string ⟨#[]⟩,.string ⟨#[]⟩] 179))
 have D0:=zeq d0 B0.out
 have D1:=zeq d1 B0.out
 have D2:=zeq d2 B0.out
 have E0:=zeq e0 B0.out
 have E1:=zeq e1 B0.out
 have E2:=zeq e2 B0.out
 have D1:=(show _=_ from D1:(w.alloc (.cells #[.string ⟨#[]⟩,.string ⟨#[]⟩] 179)).cell? ⟨a1.block,a1.off+1,none⟩=some (.int .i64 x.N))
 have D2:=(show _=_ from D2:(w.alloc (.cells #[.string ⟨#[]⟩,.string ⟨#[]⟩] 179)).cell? ⟨a1.block,a1.off+2,none⟩=some (.int .u32 x.S))
 have E1:=(show _=_ from E1:(w.alloc (.cells #[.string ⟨#[]⟩,.string ⟨#[]⟩] 179)).cell? ⟨a2.block,a2.off+1,none⟩=some (.int .i64 y.N))
 have E2:=(show _=_ from E2:(w.alloc (.cells #[.string ⟨#[]⟩,.string ⟨#[]⟩] 179)).cell? ⟨a2.block,a2.off+2,none⟩=some (.int .u32 y.S))
 have x0n:0<n1:=by omega
 have y0n:0<n2:=by omega
 have CM:=hid (fun w'=>Tryz.strings_Compare (bs x.n) (bs y.n) w')
 simp only[zai] at CM
 have hz:=heap_alloc_new w (.cells #[.string ⟨#[]⟩,.string ⟨#[]⟩] 179)
 clear h1 h2 hn1 hn2 d0 d1 d2 e0 e1 e2
 rcases zev x.n y.n with h|h|h
 ·rw[yhf h] at CM
  rw[ynj h,PS.val_is,zdw]
  clear h
  go_enter Tryz.func142,Tryz.ntmps142
  go_wp2_with fail
  generalize w.alloc (.cells #[.string ⟨#[]⟩,.string ⟨#[]⟩] 179)=w1 at *
  have f0:w1.frozen? ⟨w.heap.size,0,none⟩=false:=by simp[World.frozen?,hz]
  have f1:w1.frozen? ⟨w.heap.size,1,none⟩=false:=by simp[World.frozen?,hz]
  have z0:w1.cell? ⟨w.heap.size,0,none⟩=some (.string ⟨#[]⟩):=by simp[World.cell?,hz]
  have z1:w1.cell? ⟨w.heap.size,1,none⟩=some (.string ⟨#[]⟩):=by simp[World.cell?,hz]
  obtain⟨r0,r1⟩:=yiq hz (.string ⟨#[115,101,110,100]⟩) (.string (bs x.n))
  have bb:=(B0.out.setCell (p:=⟨w.heap.size,0,none⟩) (Nat.le_refl _) (.string ⟨#[115,101,110,100]⟩)).setCell (p:=⟨w.heap.size,1,none⟩) (Nat.le_refl _) (.string (bs x.n))
  clear hz
  go_region_law (go_simp;go_at_call 130;refine(CM.out _).mono ?_;rintro e w2⟨rfl,rfl⟩)
  all_goals
   go_wp2_with fail
   refine bodyPost_ret (by simp[results,Tryz.results142,go_sem,r0,r1];try rfl) rfl ?_
   exact⟨rfl,by first|exact zac bb 1|exact zac bb _⟩
 ·rw[show Lib.compareBytes x.n y.n=0 by rw[h,zyp]] at CM
  by_cases hxy:x=y
  ·subst hxy
   have EQ:=yj1 x
   rw[yci rfl,PS.val_is,zkc]
   clear h
   go_enter Tryz.func142,Tryz.ntmps142
   go_wp2_with fail
   generalize w.alloc (.cells #[.string ⟨#[]⟩,.string ⟨#[]⟩] 179)=w1 at *
   have f0:w1.frozen? ⟨w.heap.size,0,none⟩=false:=by simp[World.frozen?,hz]
   have f1:w1.frozen? ⟨w.heap.size,1,none⟩=false:=by simp[World.frozen?,hz]
   have z0:w1.cell? ⟨w.heap.size,0,none⟩=some (.string ⟨#[]⟩):=by simp[World.cell?,hz]
   have z1:w1.cell? ⟨w.heap.size,1,none⟩=some (.string ⟨#[]⟩):=by simp[World.cell?,hz]
   have rr:=fun n=>yiq (show(w1.drewN n).heap[w.heap.size]?=_ from hz) (.string ⟨#[107,101,101,112]⟩) (.string (bs x.n))
   have r0:=fun n=>(rr n).1
   have r1:=fun n=>(rr n).2
   have bb:=(B0.out.setCell (p:=⟨w.heap.size,0,none⟩) (Nat.le_refl _) (.string ⟨#[107,101,101,112]⟩)).setCell (p:=⟨w.heap.size,1,none⟩) (Nat.le_refl _) (.string (bs x.n))
   clear hz
   go_region_law (go_simp;go_at_call 130;refine(CM.out _).mono ?_;rintro e w2⟨rfl,rfl⟩)
   all_goals
    go_wp2_with fail
    go_quiet (fail)
    go_wp2_with fail
    refine bodyPost_ret (by simp[results,Tryz.results142,go_sem,r0,r1];try rfl) rfl ?_
    exact⟨rfl,by first|exact zac bb 1|exact zac bb _⟩
  ·have EQ:=yfg hxy
   rw[yij hxy h,PS.val_is,zdw]
   clear h hxy
   go_enter Tryz.func142,Tryz.ntmps142
   go_wp2_with fail
   generalize w.alloc (.cells #[.string ⟨#[]⟩,.string ⟨#[]⟩] 179)=w1 at *
   have f0:w1.frozen? ⟨w.heap.size,0,none⟩=false:=by simp[World.frozen?,hz]
   have f1:w1.frozen? ⟨w.heap.size,1,none⟩=false:=by simp[World.frozen?,hz]
   have z0:w1.cell? ⟨w.heap.size,0,none⟩=some (.string ⟨#[]⟩):=by simp[World.cell?,hz]
   have z1:w1.cell? ⟨w.heap.size,1,none⟩=some (.string ⟨#[]⟩):=by simp[World.cell?,hz]
   have rr:=fun n=>yiq (show(w1.drewN n).heap[w.heap.size]?=_ from hz) (.string ⟨#[115,101,110,100]⟩) (.string (bs x.n))
   have r0:=fun n=>(rr n).1
   have r1:=fun n=>(rr n).2
   have bb:=(B0.out.setCell (p:=⟨w.heap.size,0,none⟩) (Nat.le_refl _) (.string ⟨#[115,101,110,100]⟩)).setCell (p:=⟨w.heap.size,1,none⟩) (Nat.le_refl _) (.string (bs x.n))
   clear hz
   go_region_law (go_simp;go_at_call 130;refine(CM.out _).mono ?_;rintro e w2⟨rfl,rfl⟩)
   all_goals
    go_wp2_with fail
    go_quiet (fail)
    go_wp2_with fail
    refine bodyPost_ret (by simp[results,Tryz.results142,go_sem,r0,r1];try rfl) rfl ?_
    exact⟨rfl,by first|exact zac bb 1|exact zac bb _⟩
 ·rw[yhg h] at CM
  rw[ynk h,PS.val_is,zim]
  clear h
  go_enter Tryz.func142,Tryz.ntmps142
  go_wp2_with fail
  generalize w.alloc (.cells #[.string ⟨#[]⟩,.string ⟨#[]⟩] 179)=w1 at *
  have f0:w1.frozen? ⟨w.heap.size,0,none⟩=false:=by simp[World.frozen?,hz]
  have f1:w1.frozen? ⟨w.heap.size,1,none⟩=false:=by simp[World.frozen?,hz]
  have z0:w1.cell? ⟨w.heap.size,0,none⟩=some (.string ⟨#[]⟩):=by simp[World.cell?,hz]
  have z1:w1.cell? ⟨w.heap.size,1,none⟩=some (.string ⟨#[]⟩):=by simp[World.cell?,hz]
  obtain⟨r0,r1⟩:=yiq hz (.string ⟨#[100,114,111,112]⟩) (.string (bs y.n))
  have bb:=(B0.out.setCell (p:=⟨w.heap.size,0,none⟩) (Nat.le_refl _) (.string ⟨#[100,114,111,112]⟩)).setCell (p:=⟨w.heap.size,1,none⟩) (Nat.le_refl _) (.string (bs y.n))
  clear hz
  go_region_law (go_simp;go_at_call 130;refine(CM.out _).mono ?_;rintro e w2⟨rfl,rfl⟩)
  all_goals
   go_wp2_with fail
   refine bodyPost_ret (by simp[results,Tryz.results142,go_sem,r0,r1];try rfl) rfl ?_
   exact⟨rfl,by first|exact zac bb 1|exact zac bb _⟩
theorem ya4(a t:List PL)(v1 v2:Value)(w:World)(h1:SliceIs w v1 3 (zau a))(h2:SliceIs w v2 3 (zau t))(hne:¬(a=[]∧t=[])):
  Calls Tryz.prog 142 #[v1,v2] w fun e w'=>e=.returned (.tuple #[PS.val (zbg a t).1,.int .i64 (zbg a t).2.1,.int .i64 (zbg a t).2.2])∧Below w.heap.size w w':=by
 cases a with
 | nil=>
  cases t with
  | nil=>exact absurd ⟨rfl,rfl⟩ hne
  | cons y t=>rw[yii];exact ycj y t v1 v2 w h1 h2
 | cons x a=>
  cases t with
  | nil=>rw[yih];exact zzc x a v1 v2 w h1 h2
  | cons y t=>exact yck x y a t v1 v2 w h1 h2
end Go.Proofs.YtakhkcaihhpehaaGreatDoor
