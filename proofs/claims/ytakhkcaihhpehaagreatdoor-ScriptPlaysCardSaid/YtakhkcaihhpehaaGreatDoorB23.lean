/- Texts of one proof, one behind the other: RefName, TapOne, FmtUint. -/
import Derived.Test.YtakhkcaihhpehaaGreatDoorB14
import Derived.Test.YtakhkcaihhpehaaGreatDoorB07
import Derived.Test.YtakhkcaihhpehaaGreatDoorB06
namespace Go.Proofs.YtakhkcaihhpehaaGreatDoor
open Go.RowKit
open Lib (hid)
set_option linter.unusedVariables false
set_option maxRecDepth 100000
set_option maxHeartbeats 51200000
theorem zkr(c:UInt8):zlb c=((decide (97≤c.toNat) && decide (c.toNat≤122)) || (decide (48≤c.toNat) && decide (c.toNat≤57)) || c.toNat==46 || c.toNat==45):=by
 have h:∀n:Fin 256,zlb (UInt8.ofFin n)=((decide (97≤(UInt8.ofFin n).toNat) && decide ((UInt8.ofFin n).toNat≤122)) || (decide (48≤(UInt8.ofFin n).toNat) && decide ((UInt8.ofFin n).toNat≤57)) || (UInt8.ofFin n).toNat==46 || (UInt8.ofFin n).toNat==45):=by decide +kernel
 have:=h c.toFin
 simpa using this
theorem zx2(s:ByteArray)(w:World)(hs:s.size≤1000000000):
  Calls Tryz.prog 56 #[.string s] w fun e w'=>e=.returned (.bool (zbc s.data.toList))∧w'=w:=by
 have HL:=hid (show s.data.toList.length=s.size from rfl)
 have HN:=hid (show zbc s.data.toList=(decide (1≤s.size) && decide (s.size≤12) && s.data.toList.all zlb) from rfl)
 generalize zbc s.data.toList=res at *
 go_enter Tryz.func56,Tryz.ntmps56
 go_wp2_with fail
 go_loopw [3,4,5] (fun i _ _ wr=>∃k:Nat,i=.int .i64 k∧k≤s.size∧s.data.toList.all zlb=(s.data.toList.drop k).all zlb∧wr=w) (fun i _ _ _=>s.size - (intOf i).toNat)
 case atStart=>exact⟨0,rfl,by omega,rfl,rfl⟩
 case round=>
  obtain⟨k,rfl,hk,hr,rfl⟩:=hrel
  have HR:=hid hr
  clear hr
  by_cases hlt:k<s.size
  ·have hltI:(k:Int)<s.size:=by omega
   have hdrop:s.data.toList.drop k=(s[k]'hlt)::s.data.toList.drop (k+1):=by
    rw[List.drop_eq_getElem_cons (by rw[HL.out];exact hlt)];rfl
   have NX:=hid (show s.data.toList.all zlb=(zlb (s[k]'hlt) && (s.data.toList.drop (k+1)).all zlb) by rw[HR.out,hdrop,List.all_cons])
   have NX2:=hid (fun(b:Bool)(h:zlb (s[k]'hlt)=b)=>(show s.data.toList.all zlb=(b && (s.data.toList.drop (k+1)).all zlb) by rw[←h];exact NX.out))
   have KK:=hid (show k+1≤s.size by omega)
   have x1:(0:Int)≤k:=by omega
   have x2:(k:Int).toNat=k:=by omega
   have hcb:(s[k]'hlt).toNat<256:=(s[k]'hlt).toNat_lt
   clear hdrop
   have cls:((97:Int)≤(s[k]'hlt).toNat∧((s[k]'hlt).toNat:Int)≤122∧(48:Int)≤(s[k]'hlt).toNat∧¬((s[k]'hlt).toNat:Int)≤57∧¬((s[k]'hlt).toNat:Int)=46∧¬((s[k]'hlt).toNat:Int)=45)∨((97:Int)≤(s[k]'hlt).toNat∧¬((s[k]'hlt).toNat:Int)≤122∧(48:Int)≤(s[k]'hlt).toNat∧¬((s[k]'hlt).toNat:Int)≤57∧¬((s[k]'hlt).toNat:Int)=46∧¬((s[k]'hlt).toNat:Int)=45)∨(¬(97:Int)≤(s[k]'hlt).toNat∧((s[k]'hlt).toNat:Int)≤122∧(48:Int)≤(s[k]'hlt).toNat∧((s[k]'hlt).toNat:Int)≤57∧¬((s[k]'hlt).toNat:Int)=46∧¬((s[k]'hlt).toNat:Int)=45)∨(¬(97:Int)≤(s[k]'hlt).toNat∧((s[k]'hlt).toNat:Int)≤122∧(48:Int)≤(s[k]'hlt).toNat∧¬((s[k]'hlt).toNat:Int)≤57∧¬((s[k]'hlt).toNat:Int)=46∧¬((s[k]'hlt).toNat:Int)=45)∨(¬(97:Int)≤(s[k]'hlt).toNat∧((s[k]'hlt).toNat:Int)≤122∧¬(48:Int)≤(s[k]'hlt).toNat∧((s[k]'hlt).toNat:Int)≤57∧¬((s[k]'hlt).toNat:Int)=46∧¬((s[k]'hlt).toNat:Int)=45)∨(s[k]'hlt).toNat=46∨(s[k]'hlt).toNat=45:=by omega
   rcases cls with⟨k1,k2,k3,k4,k5,k6⟩|⟨k1,k2,k3,k4,k5,k6⟩|⟨k1,k2,k3,k4,k5,k6⟩|⟨k1,k2,k3,k4,k5,k6⟩|⟨k1,k2,k3,k4,k5,k6⟩|e1|e1
   case inr.inl=>
    have j5:(((s[k]'hlt).toNat:Int) != 46)=true:=by simpa using k5
    have j6:(((s[k]'hlt).toNat:Int) != 45)=true:=by simpa using k6
    have Y:=hid (show res=false by rw[HN.out,NX2.out false (by rw[zkr];simp;omega)];simp)
    go_wp2_with fail
    go_ret
    exact⟨by first|rfl|(rw[Y.out];rfl),rfl⟩
   case inr.inr.inr.inl=>
    have j5:(((s[k]'hlt).toNat:Int) != 46)=true:=by simpa using k5
    have j6:(((s[k]'hlt).toNat:Int) != 45)=true:=by simpa using k6
    have Y:=hid (show res=false by rw[HN.out,NX2.out false (by rw[zkr];simp;omega)];simp)
    go_wp2_with fail
    go_ret
    exact⟨by first|rfl|(rw[Y.out];rfl),rfl⟩
   case inr.inr.inr.inr.inl=>
    have j5:(((s[k]'hlt).toNat:Int) != 46)=true:=by simpa using k5
    have j6:(((s[k]'hlt).toNat:Int) != 45)=true:=by simpa using k6
    have Y:=hid (show res=false by rw[HN.out,NX2.out false (by rw[zkr];simp;omega)];simp)
    go_wp2_with fail
    go_ret
    exact⟨by first|rfl|(rw[Y.out];rfl),rfl⟩
   case inl=>
    have Y:=hid (show s.data.toList.all zlb=(s.data.toList.drop (k+1)).all zlb by rw[NX2.out true (by rw[zkr];simp;omega)];rfl)
    go_wp2_with fail
    go_roundw
    case rel=>exact⟨k+1,by go_num,KK.out,Y.out,by first|rfl|trivial⟩
    case measure=>simp[intOf];omega
   case inr.inr.inl=>
    have Y:=hid (show s.data.toList.all zlb=(s.data.toList.drop (k+1)).all zlb by rw[NX2.out true (by rw[zkr];simp;omega)];rfl)
    go_wp2_with fail
    go_roundw
    case rel=>exact⟨k+1,by go_num,KK.out,Y.out,by first|rfl|trivial⟩
    case measure=>simp[intOf];omega
   all_goals
    have Y:=hid (show s.data.toList.all zlb=(s.data.toList.drop (k+1)).all zlb by rw[NX2.out true (by rw[zkr];simp;omega)];rfl)
    go_wp2_with fail
    go_roundw
    case rel=>exact⟨k+1,by go_num,KK.out,Y.out,by first|rfl|trivial⟩
    case measure=>simp[intOf];omega
  ·have hltI:¬(k:Int)<s.size:=by omega
   have hall:s.data.toList.all zlb=true:=by rw[HR.out,List.drop_of_length_le (by rw[HL.out];omega)];rfl
   have Y:=hid (show res=(decide (1≤s.size) && decide (s.size≤12)) by rw[HN.out,hall,Bool.and_true])
   clear hall
   by_cases h1:1≤s.size
   ·have h1I:(1:Int)≤s.size:=by omega
    by_cases h2:s.size≤12
    ·have h2I:(s.size:Int)≤12:=by omega
     go_wp2_with fail
     go_ret
     exact⟨by first|rfl|(rw[Y.out];simp[h1,h2]),rfl⟩
    ·have h2I:¬(s.size:Int)≤12:=by omega
     go_wp2_with fail
     go_ret
     exact⟨by first|rfl|(rw[Y.out];simp[h1,h2]),rfl⟩
   ·have h1I:¬(1:Int)≤s.size:=by omega
    go_wp2_with fail
    go_ret
    exact⟨by first|rfl|(rw[Y.out];simp[h1]),rfl⟩
theorem zkw(s:List UInt8)(w:World)(hs:s.length≤1000000000):
  Calls Tryz.prog 56 #[.string (bs s)] w fun e w'=>e=.returned (.bool (zbc s))∧w'=w:=by
 have h:=zx2 (bs s) w (by rw[zae];exact hs)
 rw[zai] at h
 exact h
theorem zyz(E:Nat→Addr)(d:List UInt8)(w:World)(hd:d.length≤1000000000)(hw:LibW E w):
  Calls Tryz.prog 143 #[.string (bs d)] w fun e w'=>∃v er,e=.returned (.tuple #[.int .i64 v,er])∧Below w.heap.size w w'∧(er=.nilIface∧Lib.atoiAll d=.ok v∨(∃t p,er=.iface t p)∧∀v,Lib.atoiAll d≠.ok v):=by
 by_cases h:∃v,Lib.atoiAll d=.ok v
 ·obtain⟨v,hv⟩:=h
  refine(ylq E d v w hd hv).mono ?_
  rintro e w'⟨rfl,b⟩
  exact⟨v,_,rfl,b,.inl ⟨rfl,hv⟩⟩
 ·have h':∀v,Lib.atoiAll d≠.ok v:=fun v hv=>h ⟨v,hv⟩
  refine(ypk E d w hd hw h').mono ?_
  rintro e w'⟨v,t,p,rfl,b⟩
  exact⟨v,_,rfl,b,.inr ⟨⟨t,p,rfl⟩,h'⟩⟩
theorem yey{b:List UInt8}(h:zdu 58 b=none):zkg b=none:=by unfold zkg;rw[h]
theorem zmw{b:List UInt8}{p:List UInt8×List UInt8}(h:zdu 58 b=some p)(hn:nmL 9 p.1=none):zkg b=none:=by unfold zkg;rw[h];simp only;rw[hn]
theorem ymn{b:List UInt8}{p:List UInt8×List UInt8}{n:Nat}(h:zdu 58 b=some p)(hn:nmL 9 p.1=some n):zkg b=if n≤20000∧n+2≤p.2.length∧(p.2.drop n).take 2=[10,46] then some (p.2.take n) else none:=by unfold zkg;rw[h];simp only;rw[hn]
theorem yaj{d:List UInt8}(h:∀v,Lib.atoiAll d≠.ok v):nmL 9 d=none:=by
 cases e:nmL 9 d with
 | none=>rfl
 | some n=>exact absurd (zqr (by decide) e).1 (h _)
theorem zfd{most:Nat}{d:List UInt8}{v:Int}(hm:most≤18)(ha:Lib.atoiAll d=.ok v)(h:¬(d.length≤most∧0≤v∧Lib.itoa v=d)):nmL most d=none:=by
 cases e:nmL most d with
 | none=>rfl
 | some n=>
  obtain⟨h1,h2,h3⟩:=zqr hm e
  rw[ha] at h1
  injection h1 with h1
  subst h1
  exact absurd ⟨h2,by omega,h3⟩ h
theorem ymx{a b:List UInt8}(h:a≠b):((bs a).toList==(bs b).toList)=false:=by simp[ByteArray.toList_eq,h]
theorem ymy(a:List UInt8):((bs a).toList==(bs a).toList)=true:=by simp
theorem yht{d:List UInt8}{v:Int}(h:Lib.atoiAll d=.ok v):-9223372036854775808≤v∧v≤9223372036854775807:=Lib.atoiAll_bounds h
theorem zhu:bs ((none:Option (List UInt8)).getD [])=⟨#[]⟩:=bs_nil
theorem yph:(⟨#[58]⟩:ByteArray).data.toList=[58]:=rfl
theorem yn4(E:Nat→Addr)(b:List UInt8)(w:World)(hw:LibW E w)(hb:b.length≤1000000000):
  Calls Tryz.prog 160 #[.string (bs b)] w fun e w'=>e=.returned (.tuple #[.string (bs ((zkg b).getD [])),.bool (zkg b).isSome])∧Below w.heap.size w w':=by
 have CT:=hid (zp3 E 58 ⟨#[58]⟩ yph b w hb hw)
 have AT:=hid (fun(w':World)(bl:Below w.heap.size w w')=>zyz E (zec 58 b) w' (Nat.le_trans (zii 58 b) hb) (hw.below bl))
 have IT:=hid (fun(n:Nat)(w':World)(bl:Below w.heap.size w w')(hn:n≤9223372036854775807)=>ze4 E n w' (hw.below bl) hn)
 have hAl:=zii 58 b
 have hBl:=ylc 58 b
 have HCA:Hid (∀p,zdu 58 b=some p→zec 58 b=p.1∧zcc 58 b=p.2):=fun p hp=>by unfold zec zcc;rw[hp];exact⟨rfl,rfl⟩
 have HON:=hid (fun h=>yey (b:=b) h)
 clear hw
 cases hc:zdu 58 b with
 | none=>
  rw[HON.out hc]
  have CT':=CT.out
  rw[hc] at CT'
  clear hc HON CT HCA hAl hBl
  have CT2:=hid CT'
  clear CT'
  generalize zec 58 b=dA at *
  generalize zcc 58 b=dB at *
  go_enter Tryz.func160,Tryz.ntmps160
  go_wp2_with fail
  refine CT2.out.mono ?_
  rintro e w1⟨rfl,b1⟩
  go_wp2_with fail
  refine(AT.out _ b1).mono ?_
  rintro e w2⟨v,er,rfl,b2,_⟩
  go_wp2_with fail
  go_ret2
  exact⟨by rw[zhu];rfl,zaa b1 b2⟩
 | some p=>
  obtain⟨eA,eB⟩:=HCA.out p hc
  have CT':=CT.out
  rw[hc,eA,eB] at CT'
  have AT':=AT.out
  rw[eA] at AT'
  rw[eA] at hAl
  rw[eB] at hBl
  have HC:=hid hc
  have CT2:=hid CT'
  have AT2:=hid AT'
  obtain⟨d,rest⟩:=p
  clear hc HON CT HCA CT' AT AT' eA eB
  simp only at CT2 AT2 hAl hBl
  have hdz:(bs d).size=d.length:=zae d
  have hrz:(bs rest).size=rest.length:=zae rest
  go_enter Tryz.func160,Tryz.ntmps160
  go_wp2_with fail
  refine CT2.out.mono ?_
  rintro e w1⟨rfl,b1⟩
  go_wp2_with fail
  refine(AT2.out _ b1).mono ?_
  rintro e w2⟨v,er,rfl,b2,hor⟩
  have b02:=zaa b1 b2
  clear CT2 AT2 b1 b2
  rcases hor with⟨rfl,hok⟩|⟨⟨t,q,rfl⟩,hno⟩
  ·have hbd:=yht hok
   have HOK:=hid hok
   clear hok
   by_cases h9:d.length≤9
   ·have h9I:(d.length:Int)≤9:=by omega
    by_cases hv:0≤v
    ·obtain⟨n,rfl⟩:=Int.eq_ofNat_of_zero_le hv
     go_wp2_with fail
     refine(IT.out n _ b02 (by omega)).mono ?_
     rintro e w3⟨rfl,b3⟩
     have b03:=zaa b02 b3
     clear b3 b02 IT
     by_cases hd:Lib.decDigits n=d
     ·have hnm:=zxt (most:=9) h9 hv (by show Lib.itoa (n:Int)=d;rw[Lib.itoa_nonneg];exact hd)
      have HIF:=hid (ymn HC.out hnm)
      have hq:=ymy d
      simp only[hd]
      rw[Int.toNat_natCast] at HIF
      clear hnm hd HC HOK
      by_cases hn:n≤20000
      ·have hnI:¬(20000:Int)<n:=by omega
       by_cases hr:n+2≤rest.length
       ·have hrI:¬(rest.length:Int)<(n:Int)+2:=by omega
        have hw1:IntKind.i64.wrap ((n:Int)+2)=(n:Int)+2:=IntWalk.i64_in _ (by omega)
        have y1:(0:Int)≤n:=by omega
        have y2:(n:Int)≤(n:Int)+2:=by omega
        have y3:(n:Int)+2≤rest.length:=by omega
        have y4:((n:Int)+2).toNat=n+2:=by omega
        have y5:(n:Int).toNat=n:=by omega
        have hT:((bs rest).extract n (n+2)).toList=(rest.drop n).take 2:=by
         rw[ByteArray.toList_eq,Lib.extract_data,zai,show n+2 - n=2 by omega]
        by_cases hx:(rest.drop n).take 2=[10,46]
        ·have hb:(((bs rest).extract n (n+2)).toList==[10,46])=true:=by rw[hT,hx];rfl
         have EX:(bs rest).extract 0 n=bs (rest.take n):=by rw[zcv,zai]
         have HE:=hid EX
         have HX:=hid hx
         clear hT EX hx
         go_wp2_with fail
         go_ret2
         exact⟨by rw[HIF.out,if_pos ⟨hn,hr,HX.out⟩,Option.getD_some,←HE.out];rfl,b03⟩
        ·have hb:(((bs rest).extract n (n+2)).toList==[10,46])=false:=by rw[hT,beq_eq_false_iff_ne];exact hx
         have HX:=hid hx
         clear hT hx
         go_wp2_with fail
         go_ret2
         exact⟨by rw[HIF.out,if_neg (fun h=>HX.out h.2.2),zhu];rfl,b03⟩
       ·have hrI:(rest.length:Int)<(n:Int)+2:=by omega
        have hw1:IntKind.i64.wrap ((n:Int)+2)=(n:Int)+2:=IntWalk.i64_in _ (by omega)
        go_wp2_with fail
        go_ret2
        exact⟨by rw[HIF.out,if_neg (fun h=>hr h.2.1),zhu];rfl,b03⟩
      ·have hnI:(20000:Int)<n:=by omega
       go_wp2_with fail
       go_ret2
       exact⟨by rw[HIF.out,if_neg (fun h=>hn h.1),zhu];rfl,b03⟩
     ·have HN:=hid (zmw HC.out (zfd (most:=9) (by decide) HOK.out (fun h=>hd (by rw[←Lib.itoa_nonneg];exact h.2.2))))
      have hq:=ymx hd
      clear hd HC HOK
      go_wp2_with fail
      go_ret2
      exact⟨by rw[HN.out,zhu];rfl,b03⟩
    ·have HN:=hid (zmw HC.out (zfd (most:=9) (by decide) HOK.out (fun h=>hv h.2.1)))
     go_wp2_with fail
     go_ret2
     exact⟨by rw[HN.out,zhu];rfl,b02⟩
   ·have h9I:¬(d.length:Int)≤9:=by omega
    have HN:=hid (zmw HC.out (zfd (most:=9) (by decide) HOK.out (fun h=>h9 h.1)))
    go_wp2_with fail
    go_ret2
    exact⟨by rw[HN.out,zhu];rfl,b02⟩
  ·have HN:=hid (zmw HC.out (yaj hno))
   clear hno
   go_wp2_with fail
   go_ret2
   exact⟨by rw[HN.out,zhu];rfl,b02⟩
theorem zvf{most:Nat}{d:List UInt8}(hm:most≤18)(h:∀v,Lib.atoiAll d≠.ok v):nmL most d=none:=by
 cases e:nmL most d with
 | none=>rfl
 | some n=>exact absurd (zqr hm e).1 (h _)
def zn4(most:Nat)(d:List UInt8)(e:Ending):Prop:=∃v:Int,e=.returned (.tuple #[.int .i64 v,.bool (nmL most d).isSome])∧(∀n,nmL most d=some n→v=n)
theorem zd4(E:Nat→Addr)(most:Nat)(d:List UInt8)(w:World)(hw:LibW E w)(hm:most≤18)(hd:d.length≤1000000000):
  Calls Tryz.prog 103 #[.string (bs d),.int .i64 most] w fun e w'=>zn4 most d e∧Below w.heap.size w w':=by
 have AT:=hid (zyz E d w hd hw)
 have IT:=hid (fun(n:Nat)(w':World)(bl:Below w.heap.size w w')(hn:n≤9223372036854775807)=>ze4 E n w' (hw.below bl) hn)
 have hdz:(bs d).size=d.length:=zae d
 have HM:=hid hm
 clear hw
 go_enter Tryz.func103,Tryz.ntmps103
 go_wp2_with fail
 refine AT.out.mono ?_
 rintro e w1⟨v,er,rfl,b1,hor⟩
 rcases hor with⟨rfl,hok⟩|⟨⟨t,q,rfl⟩,hno⟩
 ·have hbd:=yht hok
  have HOK:=hid hok
  clear hok
  by_cases h9:d.length≤most
  ·have h9I:decide (d.length≤most)=true:=by simpa using h9
   have h9J:(d.length:Int)≤most:=by omega
   by_cases hv:0≤v
   ·obtain⟨n,rfl⟩:=Int.eq_ofNat_of_zero_le hv
    have IT1:=hid (IT.out n _ b1 (by omega))
    clear IT AT
    go_wp2_with fail
    refine IT1.out.mono ?_
    rintro e w3⟨rfl,b3⟩
    have b03:=zaa b1 b3
    clear b3 b1 IT1
    by_cases hd2:Lib.decDigits n=d
    ·have HNM:=hid (zxt (most:=most) h9 hv (by show Lib.itoa (n:Int)=d;rw[Lib.itoa_nonneg];exact hd2))
     have hq:=ymy d
     simp only[hd2]
     go_wp2_with fail
     go_ret2
     exact⟨⟨n,by rw[HNM.out];rfl,fun k hk=>by rw[HNM.out] at hk;injection hk with hk;omega⟩,b03⟩
    ·have HNM:=hid (zfd HM.out HOK.out (fun h=>hd2 (by rw[←Lib.itoa_nonneg];exact h.2.2)))
     have hq:=ymx hd2
     go_wp2_with fail
     go_ret2
     exact⟨⟨n,by rw[HNM.out];rfl,fun k hk=>by rw[HNM.out] at hk;cases hk⟩,b03⟩
   ·have hvI:v<0:=by omega
    have HNM:=hid (zfd HM.out HOK.out (fun h=>hv h.2.1))
    clear IT AT
    go_wp2_with fail
    go_ret2
    exact⟨⟨v,by rw[HNM.out];rfl,fun k hk=>by rw[HNM.out] at hk;cases hk⟩,b1⟩
  ·have h9I:decide (d.length≤most)=false:=by simpa using h9
   have h9J:¬(d.length:Int)≤most:=by omega
   have HNM:=hid (zfd HM.out HOK.out (fun h=>h9 h.1))
   clear IT AT
   go_wp2_with fail
   go_ret2
   exact⟨⟨v,by rw[HNM.out];rfl,fun k hk=>by rw[HNM.out] at hk;cases hk⟩,b1⟩
 ·have HNM:=hid (zvf HM.out hno)
  clear hno IT AT
  go_wp2_with fail
  go_ret2
  exact⟨⟨v,by rw[HNM.out];rfl,fun k hk=>by rw[HNM.out] at hk;cases hk⟩,b1⟩
section
open Go.Sort
theorem zs7(E:Nat→Addr)(u:Nat)(w:World)(hw:LibW E w)(hn:u≤4294967295):
  Calls Tryz.prog 139 #[.int .u64 u,.int .i64 10] w fun e w'=>e=.returned (.string (bs (Lib.decDigits u)))∧Below w.heap.size w w':=by
 by_cases hs:u<100
 ·have SM:=hid (fun w'=>Tryz.internal_strconv_small u hs w')
  have hI:(u:Int)<100:=by omega
  clear hw
  go_enter Tryz.func139,Tryz.ntmps139
  go_wp2_with fail
  refine(SM.out _).mono ?_
  rintro e w1⟨rfl,hw1⟩
  obtain rfl:w=w1:=hw1.symm
  go_wp2_with fail
  go_ret
  exact⟨by unfold bs;rfl,Below.refl _ _⟩
 ·have hu1:1≤u:=by omega
  have hu64:u<18446744073709551616:=by omega
  have hnd20:Lib.nDigits u≤20:=by have:=Lib.numDigits_eq u hu1 hu64;split at this<;>omega
  have hal:Tryz.prog.arrayLen 255=24:=by simp[Program.arrayLen,Tryz.underlying255]
  have hsl:∀W,(Instr.sliceAt 255 (.pointer (some ⟨w.heap.size,0,none⟩)) none (some (.int .i64 (Lib.nDigits u:Int))) none).run Tryz.prog W=.ok (.slice (some ⟨w.heap.size,0,none⟩) (Lib.nDigits u) 24) W:=fun W=>by
   rw[run_sliceAt_array_h W 255 ⟨w.heap.size,0,none⟩ (by simp[Program.arrayLen,Program.elem,Tryz.underlying255]) .i64 (Lib.nDigits u:Int) (by omega) (by rw[hal];omega)]
   go_simp
  have hH0:=Lib.holds_zero0 w 255 (Lib.nDigits u) (by omega)
  have hfmt:=Tryz.internal_strconv_formatBase10 w.heap.size 0 24 u (Array.replicate (Lib.nDigits u) 0) (w.alloc (.cells Lib.zeros24 255)) hH0 (by rw[Array.size_replicate];exact Lib.lt_pow_nDigits u) hu64 (by rw[Array.size_replicate];omega)
  rw[Array.size_replicate] at hfmt
  have HH0:=hid hH0
  have HF:=hid hfmt
  have ND:=hid (Tryz.internal_strconv_numDigits u hu1 hu64 _ (Lib.tabIs_alloc hw.tab (.cells Lib.zeros24 255)))
  have iu:¬(u:Int)<100:=by omega
  have z1:(0:Int)≤(Lib.nDigits u:Int):=by omega
  have z2:(Lib.nDigits u:Int)≤24:=by omega
  clear hH0 hal hfmt hw hu64
  go_enter Tryz.func139,Tryz.ntmps139
  go_wp2_with fail
  refine ND.out.mono ?_
  rintro e w1⟨rfl,hw1⟩
  obtain rfl:=hw1.symm
  go_wp2_with fail
  refine HF.out.mono ?_
  rintro e w2⟨rfl,k,v',dk,rfl,hF⟩
  have hcv:(convert 105 9 (.slice (some ⟨w.heap.size,0,none⟩) (Lib.nDigits u) 24)).run Tryz.prog ((putRow (fun(b:UInt8)=>Value.int .u8 (b.toNat:Int)) (w.alloc (.cells Lib.zeros24 255)) w.heap.size 0 dk).drewN k)=.ok (.string ⟨(Lib.decDigits u).toArray⟩) ((putRow (fun(b:UInt8)=>Value.int .u8 (b.toNat:Int)) (w.alloc (.cells Lib.zeros24 255)) w.heap.size 0 dk).drewN k):=by
   have h:=run_convert_bytes_back (P:=Tryz.prog) ((putRow (fun(b:UInt8)=>Value.int .u8 (b.toNat:Int)) (w.alloc (.cells Lib.zeros24 255)) w.heap.size 0 dk).drewN k) 105 9 5 ⟨w.heap.size,0,none⟩ 24 (Lib.decDigits u) Tryz.underlying105 Tryz.underlying5 Tryz.underlying9 (fun j hj=>by
    rw[Lib.row_is_numeral hF j hj,Lib.add_plain,World.cell?_drewN]
    exact cell?_putRow (fun(b:UInt8)=>Value.int .u8 (b.toNat:Int)) _ w.heap.size 0 _ dk HH0.out (by rw[hF.size,Array.size_replicate]) j (by rw[hF.size];rw[Lib.decDigits_length] at hj;exact hj))
   rw[Lib.decDigits_length] at h
   exact h
  obtain⟨os,eo⟩:=Lib.fin_at w (.cells Lib.zeros24 255) dk k 0
  have HB:Hid (Below w.heap.size w ((putRow (fun(b:UInt8)=>Value.int .u8 (b.toNat:Int)) (w.alloc (.cells Lib.zeros24 255)) w.heap.size 0 dk).drewN k)):=hid (by rw[eo];exact Lib.below_grow _ _ (Nat.le_refl _) k os)
  clear eo HF ND
  generalize (putRow (fun(b:UInt8)=>Value.int .u8 (b.toNat:Int)) (w.alloc (.cells Lib.zeros24 255)) w.heap.size 0 dk).drewN k=W2 at *
  go_wp2_with fail
  go_ret
  refine⟨?_,HB.out⟩
  unfold bs;rfl
theorem zni(E:Nat→Addr)(u:Nat)(w:World)(hw:LibW E w)(hn:u≤4294967295):
  Calls Tryz.prog 100 #[.int .u64 u,.int .i64 10] w fun e w'=>e=.returned (.string (bs (Lib.decDigits u)))∧Below w.heap.size w w':=by
 have FM:=hid (zs7 E u w hw hn)
 clear hw
 go_enter Tryz.func100,Tryz.ntmps100
 go_wp2_with fail
 refine FM.out.mono ?_
 rintro e w1⟨rfl,b1⟩
 go_wp2_with fail
 go_ret
 exact⟨rfl,b1⟩
end
end Go.Proofs.YtakhkcaihhpehaaGreatDoor
