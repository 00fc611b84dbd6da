/- Texts of one proof, one behind the other: BasPlain, RefByte, NmbPlain, RefNum. -/
import Derived.Test.YtakhkcaihhpehaaGreatDoorB07
import Derived.Test.YtakhkcaihhpehaaGreatDoorB03
import Derived.Test.YtakhkcaihhpehaaGreatDoorB01
import Derived.Handy
namespace Go.Proofs.YtakhkcaihhpehaaGreatDoor
open Go.RowKit
open Lib (hid)
set_option linter.unusedVariables false
set_option maxRecDepth 100000
set_option maxHeartbeats 51200000
structure PMk where
 n:List UInt8
 N:Int
 S:Nat
deriving DecidableEq
def mkC(m:PMk):Nat:=if zbc m.n=false then 5 else if m.N<0∨4000<m.N then 2 else 0
def mkT(m:PMk):List UInt8:=m.n++32::(Lib.decDigits m.N.toNat++32::Lib.decDigits m.S)
def mkX(m:PMk):List UInt8:=if mkC m=0 then mkT m else []
def zmk:PMk:=⟨[],0,0⟩
def rdW(a b c:List UInt8):PMk×Nat:=
 match nmL 10 b,nmL 10 c with
 | some n,some s=>if zbc a=false then (zmk,5) else if 4000<n∨4294967295<s then (zmk,2) else (⟨a,n,s⟩,0)
 | _,_=>(zmk,1)
def rdM(s:List UInt8):PMk×Nat:=
 match zcn 32 s with
 | [a,b,c]=>rdW a b c
 | _=>(zmk,1)
def ymo(name data:List UInt8)(m:PMk):Bool:=decide (m.n=name) && decide (0<m.N) && decide (m.N≤data.length) && decide (za5 (data.take m.N.toNat)=m.S)
theorem zjv(name data:List UInt8)(m:PMk):ymo name data m=true↔m.n=name∧0<m.N∧m.N≤data.length∧za5 (data.take m.N.toNat)=m.S:=by
 unfold ymo;simp[and_assoc]
def zyg(name data:List UInt8):List PMk→Int→Int
 | [],far=>far
 | m::l,far=>zyg name data l (if m.n=name∧far<m.N∧m.N≤data.length∧za5 (data.take m.N.toNat)=m.S then m.N else far)
def zn6(name data:List UInt8)(l:List PMk):Int:=zyg name data l 0
theorem zj9(name data:List UInt8)(l:List PMk):∀far:Int,0≤far→far≤data.length→far≤zyg name data l far∧zyg name data l far≤data.length∧(∀m∈l,ymo name data m=true→m.N≤zyg name data l far)∧(zyg name data l far=far∨∃m∈l,ymo name data m=true∧zyg name data l far=m.N):=by
 induction l with
 | nil=>intro far h0 h1;exact⟨Int.le_refl _,h1,by simp,.inl rfl⟩
 | cons m l ih=>
  intro far h0 h1
  unfold zyg
  by_cases hc:m.n=name∧far<m.N∧m.N≤data.length∧za5 (data.take m.N.toNat)=m.S
  ·rw[if_pos hc]
   obtain⟨a1,a2,a3,a4⟩:=ih m.N (by omega) hc.2.2.1
   refine⟨by omega,a2,fun x hx ho=>?_,.inr ?_⟩
   ·rcases List.mem_cons.1 hx with rfl|hx
    ·exact a1
    ·exact a3 x hx ho
   ·rcases a4 with e|⟨x,hx,ho,e⟩
    ·exact⟨m,by simp,(zjv _ _ _).2 ⟨hc.1,by omega,hc.2.2⟩,e⟩
    ·exact⟨x,by simp[hx],ho,e⟩
  ·rw[if_neg hc]
   obtain⟨a1,a2,a3,a4⟩:=ih far h0 h1
   refine⟨a1,a2,fun x hx ho=>?_,?_⟩
   ·rcases List.mem_cons.1 hx with rfl|hx
    ·obtain⟨b1,b2,b3,b4⟩:=(zjv _ _ _).1 ho
     by_cases hf:far<x.N
     ·exact absurd ⟨b1,hf,b3,b4⟩ hc
     ·omega
    ·exact a3 x hx ho
   ·rcases a4 with e|⟨x,hx,ho,e⟩
    ·exact .inl e
    ·exact .inr ⟨x,by simp[hx],ho,e⟩
theorem ygq{name data:List UInt8}{l:List PMk}{n:Int}(h0:0≤n)(hup:∀m∈l,ymo name data m=true→m.N≤n)(hat:n=0∨∃m∈l,ymo name data m=true∧n=m.N):zn6 name data l=n:=by
 obtain⟨a1,a2,a3,a4⟩:=zj9 name data l 0 (by omega) (by omega)
 unfold zn6
 rcases a4 with e|⟨x,hx,ho,e⟩
 ·rcases hat with rfl|⟨m,hm,hom,rfl⟩
  ·exact e
  ·have:=a3 m hm hom;omega
 ·have h1:=hup x hx ho
  rcases hat with rfl|⟨m,hm,hom,rfl⟩
  ·omega
  ·have:=a3 m hm hom;omega
theorem farL_ge{name data:List UInt8}{l:List PMk}{m:PMk}(hm:m∈l)(ho:ymo name data m=true):m.N≤zn6 name data l:=(zj9 name data l 0 (by omega) (by omega)).2.2.1 m hm ho
theorem ygr(name data:List UInt8)(l:List PMk):0≤zn6 name data l∧zn6 name data l≤data.length:=⟨(zj9 name data l 0 (by omega) (by omega)).1,(zj9 name data l 0 (by omega) (by omega)).2.1⟩
theorem ydn(c:UInt8)(w:World):Calls Tryz.prog 83 #[.int .i64 c.toNat] w fun e w'=>e=.returned (.string (bs [c]))∧Below w.heap.size w w':=by
 have hc:=c.toNat_lt
 have CV:=fun(w':World)=>zyn (P:=Tryz.prog) w' 105 9 5 Tryz.underlying105 Tryz.underlying5 Tryz.underlying9 w.heap.size 1 c
 have HCV:=hid (CV (w.alloc (.cells #[.int .u8 c.toNat] 5)) (by simp))
 have hcv:=HCV.out
 have HB:=hid (show bs [c]=⟨#[c]⟩ by unfold bs;rfl)
 have x1:(c.toNat:Int)<256:=by omega
 clear CV HCV
 go_enter Tryz.func83,Tryz.ntmps83
 go_wp2_with fail
 go_ret
 exact⟨by rw[HB.out];rfl,(Below.refl _ w).alloc (Nat.le_refl _) _⟩
theorem zc6(a b:List UInt8):bs a++bs b=bs (a++b):=zg0 (by simp)
theorem zxb(c:UInt8)(v:Int)(hv:v=c.toNat)(w:World):Calls Tryz.prog 83 #[.int .i64 v] w fun e w'=>e=.returned (.string (bs [c]))∧Below w.heap.size w w':=by
 subst hv;exact ydn c w
theorem ymu{k:Nat}(h:k<10):(48:Int)+k=((UInt8.ofNat (48+k)).toNat:Int):=by
 rw[UInt8.toNat_ofNat'];omega
theorem zzb(n:Nat):(-(n:Int)).tdiv 10=-((n / 10:Nat):Int):=by
 rw[Int.neg_tdiv];rfl
theorem zza(n:Nat):(-(n:Int)).tmod 10=-((n % 10:Nat):Int):=by
 rw[Int.neg_tmod];rfl
theorem zzw(n:Nat):∀(z:Int)(w:World),z=-(n:Int)→n≤1000000000000000000→Calls Tryz.prog 50 #[.int .i64 z] w fun e w'=>e=.returned (.string (bs (Lib.decDigits n)))∧Below w.heap.size w w':=by
 induction n using Nat.strongRecOn with
 | _ n ih=>
  intro z w hz hn
  by_cases h9:n<10
  ·have RB:=hid (fun w'=>zxb (UInt8.ofNat (48+n)) (48 - z) (by rw[←ymu h9];omega) w')
   have HD:=hid (zfq h9)
   have hI:(-10:Int)<z:=by omega
   have hI2:z≤0:=by omega
   clear ih hz hn h9
   generalize UInt8.ofNat (48+n)=c at *
   go_enter Tryz.func50,Tryz.ntmps50
   go_wp2_with fail
   refine(RB.out _).mono ?_
   rintro e w1⟨rfl,b1⟩
   go_wp2_with fail
   go_ret
   exact⟨by rw[HD.out];rfl,b1⟩
  ·have hI:¬(-10:Int)<z:=by omega
   have hlo:-1000000000000000000≤z:=by omega
   have hI2:z≤-10:=by omega
   have hd:=znq h9
   have h10:n % 10<10:=by omega
   obtain⟨q,hq⟩:∃q,q=z.tdiv 10:=⟨_,rfl⟩
   obtain⟨r,hr⟩:∃r,r=z.tmod 10:=⟨_,rfl⟩
   have hq2:q=-((n / 10:Nat):Int):=by rw[hq,hz];exact zzb n
   have hr2:r=-((n % 10:Nat):Int):=by rw[hr,hz];exact zza n
   have BL:=hid (fun w'=>ih (n / 10) (by omega) q w' hq2 (by omega))
   have RB:=hid (fun w'=>zxb (UInt8.ofNat (48+n % 10)) (48 - r) (by rw[←ymu h10];omega) w')
   have hr3:-9≤r∧r≤0:=by omega
   obtain⟨hr4,hr5⟩:=hr3
   have hw1:IntKind.i64.wrap q=q:=IntWalk.i64_in _ (by omega)
   have hw2:IntKind.i64.wrap r=r:=IntWalk.i64_in _ (by omega)
   have hw3:IntKind.i64.wrap (48 - r)=48 - r:=IntWalk.i64_in _ (by omega)
   have hq':=hq.symm
   have hr':=hr.symm
   have HD:=hid hd
   have hl1:=zay (n:=n / 10) (k:=18) (by omega)
   have hcat:¬9223372036854775807<(Lib.decDigits (n / 10)).length+1:=by omega
   clear ih hz hn h9 hd hq2 hr2 h10 hq hr hl1
   generalize Lib.decDigits (n / 10)=dl at *
   generalize UInt8.ofNat (48+n % 10)=c at *
   go_enter Tryz.func50,Tryz.ntmps50
   go_wp2_with fail
   refine(BL.out _).mono ?_
   rintro e w1⟨rfl,b1⟩
   go_wp2_with fail
   refine(RB.out _).mono ?_
   rintro e w2⟨rfl,b2⟩
   have b12:=zaa b1 b2
   go_wp2_with fail
   go_ret
   exact⟨by rw[HD.out];first|rfl|(rw[zc6];rfl),b12⟩
theorem zbt(n:Nat)(w:World)(h:n≤1000000000000000000):Calls Tryz.prog 26 #[.int .i64 n] w fun e w'=>e=.returned (.string (bs (Lib.decDigits n)))∧Below w.heap.size w w':=by
 have BL:=hid (fun w'=>zzw n (-(n:Int)) w' rfl h)
 have hI:¬(n:Int)<0:=by omega
 have hw1:IntKind.i64.wrap (-(n:Int))=-(n:Int):=IntWalk.i64_in _ (by omega)
 go_enter Tryz.func26,Tryz.ntmps26
 go_wp2_with fail
 refine(BL.out _).mono ?_
 rintro e w1⟨rfl,b1⟩
 go_wp2_with fail
 go_ret
 exact⟨rfl,b1⟩
theorem zux(s:List UInt8)(w:World)(hs:s.length≤1000000000):
  Calls Tryz.prog 58 #[.string (bs s)] w fun e w'=>e=.returned (.string (bs (zc9 s)))∧Below w.heap.size w w':=by
 have HI:=hid (zbt s.length w (by omega))
 have hl20:=zay (n:=s.length) (k:=18) (by omega)
 have hsz:(bs s).size=s.length:=zae s
 have h1:¬9223372036854775807<(Lib.decDigits s.length).length+1:=by omega
 have h2:¬9223372036854775807<(Lib.decDigits s.length).length+1+s.length:=by omega
 have h3:¬9223372036854775807<(Lib.decDigits s.length).length+1+s.length+2:=by omega
 clear hl20
 go_enter Tryz.func58,Tryz.ntmps58
 go_wp2_with fail
 refine HI.out.mono ?_
 rintro e w1⟨rfl,b1⟩
 go_wp2_with fail
 go_ret
 refine⟨?_,b1⟩
 apply zok
 apply zg0
 simp[zc9,zai]
def nmZ(most:Nat)(d:List UInt8):Int:=match nmL most d with
 | some n=>(n:Int)
 | none=>-1
theorem zdp{most n:Nat}{d:List UInt8}(h:nmL most d=some n):nmZ most d=n:=by unfold nmZ;rw[h]
theorem zdc{most:Nat}{d:List UInt8}(h:nmL most d=none):nmZ most d=-1:=by unfold nmZ;rw[h]
theorem yjr{most:Nat}{d:List UInt8}(h:d.length<1):nmL most d=none:=by
 have:d=[]:=List.eq_nil_of_length_eq_zero (by omega)
 subst this
 unfold nmL
 split<;>rfl
theorem yn9{most:Nat}{d:List UInt8}(h:most<d.length):nmL most d=none:=by
 unfold nmL
 rw[if_neg (by omega)]
theorem yn6{most:Nat}{d:List UInt8}(h:1<d.length)(h0:d.head?=some 48):nmL most d=none:=by
 unfold nmL
 rw[if_neg (by rintro⟨_,h1|h1⟩;omega;exact h1 h0)]
theorem yn8{most:Nat}{d:List UInt8}(h1:1≤d.length)(h2:d.length≤most)(h3:¬(1<d.length∧d.head?=some 48)):nmL most d=Lib.decFrom 0 d:=by
 unfold nmL
 rw[if_pos ⟨h2,by by_cases h:d.length=1;exact .inl h;exact .inr (fun e=>h3 ⟨by omega,e⟩)⟩]
 unfold Lib.decNat
 cases d with
 | nil=>simp at h1
 | cons c r=>rfl
theorem yn7{d:List UInt8}{k n:Nat}{c:UInt8}(h:Lib.decFrom 0 (d.take k)=some n)(hc:d[k]?=some c)(h1:48≤c.toNat)(h2:c.toNat≤57):Lib.decFrom 0 (d.take (k+1))=some (10 * n+(c.toNat - 48)):=by
 have hk:=(List.getElem?_eq_some_iff.1 hc).1
 have e:d.take (k+1)=d.take k++[c]:=by
  rw[List.take_succ_eq_append_getElem hk]
  congr 2
  exact(List.getElem?_eq_some_iff.1 hc).2
 rw[e,zdb,h]
 simp only[Option.bind_some,Lib.decFrom,Lib.digitVal]
 rw[if_pos (by omega)]
 simp only[Option.some.injEq]
 omega
theorem yqz{d:List UInt8}{k n:Nat}{c:UInt8}(hc:d[k]?=some c)(h1:¬(48≤c.toNat∧c.toNat≤57)):Lib.decFrom 0 d=none:=by
 have hk:=(List.getElem?_eq_some_iff.1 hc).1
 have e:d=d.take k++(c::d.drop (k+1)):=by
  have:=(List.getElem?_eq_some_iff.1 hc).2
  rw[←this,←List.drop_eq_getElem_cons hk,List.take_append_drop]
 rw[e,zdb]
 cases Lib.decFrom 0 (d.take k) with
 | none=>rfl
 | some a=>
  simp only[Option.bind_some,Lib.decFrom,Lib.digitVal]
  rw[if_neg (by omega)]
theorem yjs{l:List UInt8}{n:Nat}(h:Lib.decFrom 0 l=some n):n<10 ^ l.length:=by
 have:∀(k:Nat)(l:List UInt8),l.length=k→∀n,Lib.decFrom 0 l=some n→n<10 ^ k:=by
  intro k
  induction k with
  | zero=>
   intro l hl n h
   have:l=[]:=List.eq_nil_of_length_eq_zero hl
   subst this
   have h0:some 0=some n:=h
   injection h0 with h0
   subst h0;decide
  | succ k ih=>
   intro l hl n h
   have hne:l≠[]:=fun e=>by rw[e] at hl;simp at hl
   obtain⟨m,c,rfl⟩:∃m c,l=m++[c]:=⟨l.dropLast,l.getLast hne,(List.dropLast_concat_getLast hne).symm⟩
   rw[List.length_append] at hl
   have hl':m.length=k:=by simpa using hl
   rw[zdb] at h
   cases hm:Lib.decFrom 0 m with
   | none=>rw[hm] at h;simp at h
   | some a=>
    rw[hm] at h
    have ha:=ih m hl' a hm
    simp only[Option.bind_some,Lib.decFrom] at h
    cases hc:Lib.digitVal c with
    | none=>rw[hc] at h;cases h
    | some d=>
     rw[hc] at h
     simp only[Option.some.injEq] at h
     obtain⟨_,hd⟩:=yg6 hc
     rw[Nat.pow_succ]
     omega
 exact this l.length l rfl n h
theorem yak{l:List UInt8}{n:Nat}(h:Lib.decFrom 0 l=some n)(hl:l.length≤17):n<100000000000000000:=
 Nat.lt_of_lt_of_le (yjs h) (Nat.le_trans (Nat.pow_le_pow_right (by decide) hl) (by decide))
theorem yq0{most:Nat}{d:List UInt8}(hm:most≤18):-1≤nmZ most d∧nmZ most d≤1000000000000000000:=by
 cases h:nmL most d with
 | none=>rw[zdc h];omega
 | some n=>
  rw[zdp h]
  obtain⟨h1,h2⟩:=zkq h
  have:=yrj (n:=n) (k:=18) (by rw[h2];omega)
  omega
theorem zv4{c:UInt8}{b:List UInt8}{d k:Nat}(h:∀j,d≤j→j<k→b[j]?≠some c)(hk:b.length≤k):zdu c (b.drop d)=none:=by
 rw[cutC_none]
 intro hm
 obtain⟨i,hi⟩:=List.mem_iff_getElem?.1 hm
 rw[List.getElem?_drop] at hi
 have:=(List.getElem?_eq_some_iff.1 hi).1
 exact h (d+i) (by omega) (by omega) hi
theorem zv3{c:UInt8}{b:List UInt8}{d k:Nat}(h:∀j,d≤j→j<k→b[j]?≠some c)(hd:d≤k)(hk:b[k]?=some c):zdu c (b.drop d)=some ((b.drop d).take (k - d),b.drop (k+1)):=by
 have hkl:=(List.getElem?_eq_some_iff.1 hk).1
 have e:b.drop d=(b.drop d).take (k - d)++c::b.drop (k+1):=by
  have h1:(b.drop d).drop (k - d)=b.drop k:=by rw[List.drop_drop];congr 1;omega
  have h2:b.drop k=c::b.drop (k+1):=by
   rw[List.drop_eq_getElem_cons hkl]
   congr 1
   exact(List.getElem?_eq_some_iff.1 hk).2
  rw[←h2,←h1,List.take_append_drop]
 have hn:c∉(b.drop d).take (k - d):=by
  intro hm
  obtain⟨i,hi⟩:=List.mem_iff_getElem?.1 hm
  rw[List.getElem?_take] at hi
  split at hi
  ·rw[List.getElem?_drop] at hi
   exact h (d+i) (by omega) (by omega) hi
  ·cases hi
 conv=>lhs;rw[e]
 exact zv5 hn _
section
attribute [local irreducible] nmL nmZ
theorem ykf(s:ByteArray)(h:0<s.size):s.data.toList.head?=some (s[0]'h):=by
 cases e:s.data.toList with
 | nil=>
  exfalso
  have h2:s.data.toList.length=s.size:=by simp
  rw[e] at h2
  have h3:([]:List UInt8).length=0:=rfl
  omega
 | cons c r=>
  have:s.data.toList[0]?=some c:=by rw[e];rfl
  have h2:s.data.toList[0]?=some (s[0]'h):=by
   rw[List.getElem?_eq_getElem (by simpa using h)];rfl
  rw[this] at h2
  exact h2
theorem ymt(s:ByteArray)(k:Nat)(h:k<s.size):s.data.toList[k]?=some (s[k]'h):=by
 rw[List.getElem?_eq_getElem (by simpa using h)];rfl
theorem zck(s:ByteArray)(most:Nat)(w:World)(hm:most≤18)(hs:s.size≤1000000000):
  Calls Tryz.prog 35 #[.string s,.int .i64 most] w fun e w'=>e=.returned (.int .i64 (nmZ most s.data.toList))∧w=w':=by
 have hl:s.data.toList.length=s.size:=by simp
 have HS:=hid (fun h=>zdc (yjr (most:=most) (d:=s.data.toList) h))
 have HG:=hid (fun h=>zdc (yn9 (most:=most) (d:=s.data.toList) h))
 have HZ:=hid (fun h h2=>zdc (yn6 (most:=most) (d:=s.data.toList) h h2))
 have HR:=hid (fun h1 h2 h3=>yn8 (most:=most) (d:=s.data.toList) h1 h2 h3)
 have HB:=hid (fun k c n h1 h2=>yqz (d:=s.data.toList) (k:=k) (c:=c) (n:=n) h1 h2)
 have HN:=hid (fun k c n h1 h2 h3 h4=>yn7 (d:=s.data.toList) (k:=k) (c:=c) (n:=n) h1 h2 h3 h4)
 have HGET:=hid (fun k h=>ymt s k h)
 have HHD:=hid (fun h=>ykf s h)
 have HBD:=hid (fun k n (h:Lib.decFrom 0 (s.data.toList.take k)=some n) (hk:k≤17)=>yak h (by rw[List.length_take];omega))
 have HL:=hid hl
 have ZS:=hid (fun n (h:nmL most s.data.toList=some n)=>zdp h)
 have ZN:=hid (fun(h:nmL most s.data.toList=none)=>zdc h)
 have HTK:Hid (s.data.toList.take s.size=s.data.toList):=List.take_of_length_le (by rw[hl];omega)
 have HT0:Hid (Lib.decFrom 0 (s.data.toList.take 0)=some 0):=rfl
 clear hl
 generalize s.data.toList=L at *
 by_cases h1:s.size<1
 ·have Z:=hid (HS.out (by rw[HL.out];omega))
  have h1I:(s.size:Int)<1:=by omega
  clear HS HG HZ HR HB HN
  go_enter Tryz.func35,Tryz.ntmps35
  go_wp2_with fail
  go_ret
  exact⟨by rw[Z.out];rfl,rfl⟩
 ·have h1I:¬(s.size:Int)<1:=by omega
  by_cases h2:most<s.size
  ·have Z:=hid (HG.out (by rw[HL.out];omega))
   have h2I:(most:Int)<s.size:=by omega
   clear HS HG HZ HR HB HN
   go_enter Tryz.func35,Tryz.ntmps35
   go_wp2_with fail
   go_ret
   exact⟨by rw[Z.out];rfl,rfl⟩
  ·have h2I:¬(most:Int)<s.size:=by omega
   have hs18:s.size≤18:=by omega
   have h0:0<s.size:=by omega
   have hhd:=HHD.out h0
   have hcb:(s[0]'h0).toNat<256:=(s[0]'h0).toNat_lt
   by_cases h3:1<s.size∧(s[0]'h0)=48
   ·have Z:=hid (HZ.out (by rw[HL.out];exact h3.1) (by rw[hhd,h3.2]))
    have h3I:(1:Int)<s.size:=by omega
    have h3b:(((s[0]'h0).toNat:Int)==48)=true:=by rw[h3.2];rfl
    clear HS HG HZ HR HB HN h3 hhd
    go_enter Tryz.func35,Tryz.ntmps35
    go_wp2_with fail
    go_ret
    exact⟨by rw[Z.out];rfl,rfl⟩
   ·have HREST:=hid (HR.out (by rw[HL.out];omega) (by rw[HL.out];omega) (by rw[HL.out,hhd];intro h;exact h3 ⟨h.1,Option.some.inj h.2⟩))
    have hor:¬(1:Int)<s.size∨(1:Int)<s.size∧(((s[0]'h0).toNat:Int)==48)=false:=by
     by_cases h:s.size=1
     ·exact .inl (by omega)
     ·refine .inr ⟨by omega,?_⟩
      rw[beq_eq_false_iff_ne]
      intro e
      exact h3 ⟨by omega,UInt8.toNat_inj.1 (by have:(48:UInt8).toNat=48:=rfl;omega)⟩
    clear HS HG HZ HR hhd h3 h1 h2 HHD
    rcases hor with hI|⟨hI,hb0⟩
    all_goals
     go_enter Tryz.func35,Tryz.ntmps35
     go_wp2_with fail
     go_loop [5,6] (fun n i=>∃k acc:Nat,k≤s.size∧i=.int .i64 k∧n=.int .i64 acc∧Lib.decFrom 0 (L.take k)=some acc) (fun _ i=>s.size - (intOf i).toNat)
     case atStart=>exact⟨0,0,by omega,rfl,rfl,HT0.out⟩
     case round=>
      obtain⟨k,acc,hk,rfl,rfl,hdec⟩:=hrel
      by_cases hlt:k<s.size
      ·have hltI:(k:Int)<s.size:=by omega
       have hc:=HGET.out k hlt
       have hacc:=HBD.out k acc hdec (by omega)
       have hcb:(s[k]'hlt).toNat<256:=(s[k]'hlt).toNat_lt
       have x1:(0:Int)≤k:=by omega
       by_cases hd:48≤(s[k]'hlt).toNat∧(s[k]'hlt).toNat≤57
       ·obtain⟨hd1,hd2⟩:=hd
        have STEP:=hid (HN.out k _ acc hdec hc hd1 hd2)
        have KK:=hid (show k+1≤s.size from hlt)
        have hdI1:¬((s[k]'hlt).toNat:Int)<48:=by omega
        have hdI2:¬(57:Int)<(s[k]'hlt).toNat:=by omega
        have EQ:Hid (((10 * acc+((s[k]'hlt).toNat - 48):Nat):Int)=10 * (acc:Int)+(((s[k]'hlt).toNat:Int) - 48)):=by show _=_;omega
        clear hc hdec
        go_wp2_with fail
        go_round
        case rel=>exact⟨k+1,10 * acc+((s[k]'hlt).toNat - 48),KK.out,by go_num,by rw[EQ.out],STEP.out⟩
        case measure=>simp[intOf];omega
       ·have Z:=hid (ZN.out (HREST.out.trans (HB.out k _ acc hc hd)))
        have hor2:(s[k]'hlt).toNat<48∨48≤(s[k]'hlt).toNat∧57<(s[k]'hlt).toNat:=by omega
        clear hc hdec hd
        rcases hor2 with hd|⟨hd,hd'⟩
        ·have hdI1:((s[k]'hlt).toNat:Int)<48:=by omega
         go_wp2_with fail
         go_ret
         exact⟨by rw[Z.out];rfl,rfl⟩
        ·have hdI1:¬((s[k]'hlt).toNat:Int)<48:=by omega
         have hdI2:(57:Int)<(s[k]'hlt).toNat:=by omega
         go_wp2_with fail
         go_ret
         exact⟨by rw[Z.out];rfl,rfl⟩
      ·have hltI:¬(k:Int)<s.size:=by omega
       have hks:k=s.size:=by omega
       rw[hks,HTK.out] at hdec
       have Z:=hid (ZS.out acc (HREST.out.trans hdec))
       clear hdec hks
       go_wp2_with fail
       go_ret
       exact⟨by rw[Z.out];rfl,rfl⟩
end
end Go.Proofs.YtakhkcaihhpehaaGreatDoor
