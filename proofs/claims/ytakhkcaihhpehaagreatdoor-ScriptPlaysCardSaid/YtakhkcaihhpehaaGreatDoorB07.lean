/- Texts of one proof, one behind the other: DecPlain, TapPlain, SplitPlain. -/
import Derived.Test.YtakhkcaihhpehaaGreatDoorB01
import Derived.Lib.AtoiTie
import Derived.Lib.AtoiBound
import Derived.Lib.ItoaLen
import Derived.Lib.CutLaws
import Derived.Lib.SplitLaws
namespace Go.Proofs.YtakhkcaihhpehaaGreatDoor
open Go.RowKit
open Lib (hid)
set_option linter.unusedVariables false
set_option maxRecDepth 100000
set_option maxHeartbeats 51200000
def nmL(most:Nat)(d:List UInt8):Option Nat:=if d.length≤most∧(d.length=1∨d.head?≠some 48) then Lib.decNat d else none
theorem zdb(l m:List UInt8):∀acc,Lib.decFrom acc (l++m)=(Lib.decFrom acc l).bind fun n=>Lib.decFrom n m:=by
 induction l with
 | nil=>intro acc;rfl
 | cons b r ih=>
  intro acc
  rw[List.cons_append]
  simp only[Lib.decFrom]
  cases h:Lib.digitVal b with
  | none=>rfl
  | some d=>exact ih _
theorem yg5(k:Nat)(h:k<10):Lib.digitVal (UInt8.ofNat (48+k))=some k:=by
 have:(UInt8.ofNat (48+k)).toNat=48+k:=by rw[UInt8.toNat_ofNat'];omega
 unfold Lib.digitVal
 rw[this,if_pos (by omega)]
 congr 1;omega
theorem yg6{b:UInt8}{d:Nat}(h:Lib.digitVal b=some d):b=UInt8.ofNat (48+d)∧d<10:=by
 unfold Lib.digitVal at h
 split at h
 ·injection h with h
  have:b.toNat=48+d:=by omega
  refine⟨?_,by omega⟩
  rw[←this];simp
 ·cases h
theorem zfq{n:Nat}(h:n<10):Lib.decDigits n=[UInt8.ofNat (48+n)]:=by rw[Lib.decDigits,dif_pos h]
theorem znq{n:Nat}(h:¬n<10):Lib.decDigits n=Lib.decDigits (n / 10)++[UInt8.ofNat (48+n % 10)]:=by rw[Lib.decDigits,dif_neg h]
theorem zyk(n:Nat):Lib.decDigits n≠[]:=by
 by_cases h:n<10
 ·rw[zfq h];simp
 ·rw[znq h];simp
theorem zrb(n:Nat):Lib.decFrom 0 (Lib.decDigits n)=some n:=by
 induction n using Nat.strongRecOn with
 | _ n ih=>
  by_cases h:n<10
  ·rw[zfq h]
   unfold Lib.decFrom
   rw[yg5 n h]
   simp[Lib.decFrom]
  ·rw[znq h,zdb,ih (n / 10) (by omega)]
   simp only[Option.bind_some]
   unfold Lib.decFrom
   rw[yg5 _ (by omega)]
   simp only[Lib.decFrom,Option.some.injEq]
   omega
theorem yk6(n:Nat)(h:0<n):(Lib.decDigits n).head?≠some 48:=by
 induction n using Nat.strongRecOn with
 | _ n ih=>
  by_cases h9:n<10
  ·rw[zfq h9]
   intro e
   simp only[List.head?_cons,Option.some.injEq] at e
   have:=congrArg UInt8.toNat e
   rw[UInt8.toNat_ofNat'] at this
   have h48:(48:UInt8).toNat=48:=rfl
   omega
  ·rw[znq h9]
   have:=ih (n / 10) (by omega) (by omega)
   cases hd:Lib.decDigits (n / 10) with
   | nil=>exact absurd hd (zyk _)
   | cons c r=>rw[hd] at this;simpa using this
theorem yri:∀(k:Nat)(l:List UInt8),l.length=k→∀n,l≠[]→Lib.decFrom 0 l=some n→(l.length=1∨l.head?≠some 48)→Lib.decDigits n=l:=by
 intro k
 induction k with
 | zero=>intro l hk n hl;exact absurd (List.eq_nil_of_length_eq_zero hk) hl
 | succ k ih=>
  intro l hk n hl h hz
  obtain⟨m,c,rfl⟩:∃m c,l=m++[c]:=⟨l.dropLast,l.getLast hl,(List.dropLast_concat_getLast hl).symm⟩
  rw[List.length_append] at hk
  have hk':m.length=k:=by simpa using hk
  rw[zdb] at h
  cases hm:Lib.decFrom 0 m with
  | none=>rw[hm] at h;simp at h
  | some a=>
   rw[hm] at h
   simp only[Option.bind_some] at h
   unfold Lib.decFrom at h
   cases hc:Lib.digitVal c with
   | none=>rw[hc] at h;cases h
   | some d=>
    rw[hc] at h
    simp only[Lib.decFrom,Option.some.injEq] at h
    obtain⟨rfl,hd⟩:=yg6 hc
    by_cases hm0:m=[]
    ·subst hm0
     simp only[Lib.decFrom,Option.some.injEq] at hm
     subst hm
     have:n=d:=by omega
     subst this
     rw[zfq hd];rfl
    ·have hz':m.head?≠some 48:=by
      rcases hz with hz|hz
      ·rw[List.length_append] at hz
       have:m.length=0:=by simpa using hz
       exact absurd (List.eq_nil_of_length_eq_zero this) hm0
      ·cases m with
       | nil=>exact absurd rfl hm0
       | cons x m=>simpa using hz
     have e:=ih m hk' a hm0 hm (.inr hz')
     have ha:0<a:=by
      rcases Nat.eq_zero_or_pos a with h0|h0
      ·subst h0
       rw[zfq (by omega)] at e
       rw[←e] at hz'
       simp at hz'
      ·exact h0
     rw[←h,znq (by omega),show(a * 10+d) / 10=a by omega,show(a * 10+d) % 10=d by omega,e]
theorem yqy(n most:Nat)(h:(Lib.decDigits n).length≤most):nmL most (Lib.decDigits n)=some n:=by
 unfold nmL
 have hz:(Lib.decDigits n).length=1∨(Lib.decDigits n).head?≠some 48:=by
  rcases Nat.eq_zero_or_pos n with rfl|h0
  ·left;rw[zfq (by omega)];rfl
  ·exact .inr (yk6 n h0)
 rw[if_pos ⟨h,hz⟩]
 unfold Lib.decNat
 rw[if_neg (by simpa [List.isEmpty_iff] using zyk n)]
 exact zrb n
theorem zkq{most:Nat}{d:List UInt8}{n:Nat}(h:nmL most d=some n):d.length≤most∧Lib.decDigits n=d:=by
 unfold nmL at h
 split at h
 ·rename_i hc
  obtain⟨h1,h2⟩:=Lib.decNat_some h
  exact⟨hc.1,yri _ d rfl n h1 h2 hc.2⟩
 ·cases h
theorem nm_iff{most:Nat}{d:List UInt8}{n:Nat}:nmL most d=some n↔d.length≤most∧Lib.decDigits n=d:=
 ⟨zkq,fun ⟨h1,h2⟩=>by subst h2;exact yqy n most h1⟩
theorem yg7{n:Nat}:∃c r,Lib.decDigits n=c::r∧c.toNat≠43∧c.toNat≠45:=by
 cases h:Lib.decDigits n with
 | nil=>exact absurd h (zyk n)
 | cons c r=>
  have hb:=zrb n
  rw[h] at hb
  unfold Lib.decFrom at hb
  cases hc:Lib.digitVal c with
  | none=>rw[hc] at hb;cases hb
  | some d=>
   have:=Lib.digitVal_eq hc
   exact⟨c,r,rfl,by omega,by omega⟩
theorem ylr(n:Nat)(h:(Lib.decDigits n).length≤18):Lib.atoiAll (Lib.decDigits n)=.ok (n:Int):=by
 rw[Lib.atoiAll_short _ h]
 obtain⟨c,r,e,h1,h2⟩:=yg7 (n:=n)
 have hb:=zrb n
 have h3:(c==45)=false:=by rw[beq_eq_false_iff_ne];rintro rfl;exact h2 rfl
 have h4:(c==43)=false:=by rw[beq_eq_false_iff_ne];rintro rfl;exact h1 rfl
 rw[e] at hb ⊢
 simp only[Lib.atoi,h3,h4,Lib.decNat,List.isEmpty_cons,hb]
 rfl
theorem zxt{most:Nat}{d:List UInt8}{v:Int}(hd:d.length≤most)(h0:0≤v)(hi:Lib.itoa v=d):nmL most d=some v.toNat:=by
 refine nm_iff.2 ⟨hd,?_⟩
 rw[←hi]
 obtain⟨n,rfl⟩:∃n:Nat,v=n:=⟨v.toNat,by omega⟩
 rw[Lib.itoa_nonneg];simp
theorem zqr{most:Nat}{d:List UInt8}{n:Nat}(hm:most≤18)(h:nmL most d=some n):Lib.atoiAll d=.ok (n:Int)∧d.length≤most∧Lib.itoa (n:Int)=d:=by
 obtain⟨h1,h2⟩:=zkq h
 subst h2
 exact⟨ylr n (by omega),h1,Lib.itoa_nonneg n⟩
theorem yrj{n k:Nat}(h:(Lib.decDigits n).length≤k):n<10 ^ k:=by
 rw[Lib.decDigits_length] at h
 exact Nat.lt_of_lt_of_le (Lib.lt_pow_nDigits n) (Nat.pow_le_pow_right (by decide) h)
theorem zay{n k:Nat}(h:n<10 ^ (k+1)):(Lib.decDigits n).length≤k+1:=by
 rw[Lib.decDigits_length]
 induction k generalizing n with
 | zero=>rw[Lib.nDigits_small (by simpa using h)];exact Nat.le_refl _
 | succ k ih=>
  by_cases h9:n<10
  ·rw[Lib.nDigits_small h9];omega
  ·rw[Lib.nDigits_big h9]
   have:=ih (n:=n / 10) (by rw[Nat.pow_succ] at h;omega)
   omega
def zdu(c:UInt8):List UInt8→Option (List UInt8×List UInt8)
 | []=>none
 | b::l=>if b=c then some ([],l) else (zdu c l).map fun p=>(b::p.1,p.2)
theorem zkb(c:UInt8)(l:List UInt8):zdu c (c::l)=some ([],l):=by unfold zdu;rw[if_pos rfl]
theorem znr{b c:UInt8}(h:b≠c)(l:List UInt8):zdu c (b::l)=(zdu c l).map fun p=>(b::p.1,p.2):=by
 conv=>lhs;unfold zdu
 rw[if_neg h]
theorem zkz{c:UInt8}{l:List UInt8}{p:List UInt8×List UInt8}(h:zdu c l=some p):l=p.1++c::p.2∧c∉p.1:=by
 induction l generalizing p with
 | nil=>cases h
 | cons b l ih=>
  by_cases hb:b=c
  ·subst hb
   rw[zkb] at h
   cases h
   exact⟨rfl,by simp⟩
  ·rw[znr hb] at h
   obtain⟨q,hq,rfl⟩:=Option.map_eq_some_iff.1 h
   obtain⟨e,hn⟩:=ih hq
   refine⟨by rw[e];simp,?_⟩
   simp only[List.mem_cons,not_or]
   exact⟨fun e=>hb e.symm,by simpa using hn⟩
theorem zv5{c:UInt8}{a:List UInt8}(h:c∉a)(r:List UInt8):zdu c (a++c::r)=some (a,r):=by
 induction a with
 | nil=>exact zkb c r
 | cons b a ih=>
  simp only[List.mem_cons,not_or] at h
  rw[List.cons_append,znr (fun e=>h.1 e.symm),ih h.2];rfl
theorem cutC_none{c:UInt8}{l:List UInt8}:zdu c l=none↔c∉l:=by
 induction l with
 | nil=>simp[zdu]
 | cons b l ih=>
  by_cases hb:b=c
  ·subst hb;rw[zkb];simp
  ·rw[znr hb,Option.map_eq_none_iff,ih]
   simp only[List.mem_cons,not_or]
   exact⟨fun h=>⟨fun e=>hb e.symm,h⟩,fun h=>h.2⟩
theorem yav(b c:UInt8)(l:List UInt8):Lib.index (b::l) [c]=if b=c then 0 else if Lib.index l [c]=-1 then -1 else Lib.index l [c]+1:=by
 rw[Lib.index]
 by_cases h:b=c
 ·subst h;simp[List.isPrefixOf]
 ·have h':(c==b)=false:=by rw[beq_eq_false_iff_ne];exact fun e=>h e.symm
  simp[List.isPrefixOf,h,h']
theorem zs6(c:UInt8)(l:List UInt8):Lib.index l [c]=match zdu c l with|some p=>(p.1.length:Int)|none=>-1:=by
 induction l with
 | nil=>rfl
 | cons b l ih=>
  rw[yav]
  by_cases hb:b=c
  ·subst hb;rw[if_pos rfl,zkb];rfl
  ·rw[if_neg hb,znr hb]
   cases h:zdu c l with
   | none=>rw[h] at ih;rw[ih];rfl
   | some p=>
    rw[h] at ih
    simp only at ih
    rw[ih,if_neg (by omega)]
    simp
theorem yrl(c:UInt8)(l:List UInt8):Lib.cut l [c]=match zdu c l with|some p=>(p.1,p.2,true)|none=>(l,[],false):=by
 have h:=zs6 c l
 unfold Lib.cut
 cases e:zdu c l with
 | none=>rw[e] at h;simp only at h;rw[h];rfl
 | some p=>
  rw[e] at h
  simp only at h
  obtain⟨hl,_⟩:=zkz e
  rw[h,if_pos (by omega)]
  simp only[Int.toNat_natCast]
  rw[hl]
  simp
def zec(c:UInt8)(l:List UInt8):List UInt8:=match zdu c l with|some p=>p.1|none=>l
def zcc(c:UInt8)(l:List UInt8):List UInt8:=match zdu c l with|some p=>p.2|none=>[]
theorem cut_a(c:UInt8)(l:List UInt8):(Lib.cut l [c]).1=zec c l∧(Lib.cut l [c]).2.1=zcc c l∧(Lib.cut l [c]).2.2=(zdu c l).isSome:=by
 rw[yrl]
 unfold zec zcc
 cases zdu c l<;>exact⟨rfl,rfl,rfl⟩
theorem zii(c:UInt8)(l:List UInt8):(zec c l).length≤l.length:=by
 unfold zec
 cases h:zdu c l with
 | none=>exact Nat.le_refl _
 | some p=>obtain⟨e,_⟩:=zkz h;rw[e];simp
theorem ylc(c:UInt8)(l:List UInt8):(zcc c l).length≤l.length:=by
 unfold zcc
 cases h:zdu c l with
 | none=>simp
 | some p=>obtain⟨e,_⟩:=zkz h;rw[e];simp;omega
def zc9(s:List UInt8):List UInt8:=Lib.decDigits s.length++58::(s++[10,46])
theorem zqc(s:List UInt8):(zc9 s).length=(Lib.decDigits s.length).length+s.length+3:=by unfold zc9;simp;omega
theorem zh2(s:List UInt8):4≤(zc9 s).length:=by
 have:=List.length_pos_iff.2 (zyk s.length)
 rw[zqc];omega
theorem ydd{s:List UInt8}(h:s.length≤20000):(zc9 s).length≤s.length+8:=by
 have:=zay (n:=s.length) (k:=4) (by omega)
 rw[zqc];omega
def zkg(b:List UInt8):Option (List UInt8):=
 match zdu 58 b with
 | none=>none
 | some p=>match nmL 9 p.1 with
  | none=>none
  | some n=>if n≤20000∧n+2≤p.2.length∧(p.2.drop n).take 2=[10,46] then some (p.2.take n) else none
theorem ymm{b s:List UInt8}(h:zkg b=some s):s.length≤20000∧∃r,b=zc9 s++r:=by
 unfold zkg at h
 split at h
 ·cases h
 ·rename_i p hp
  split at h
  ·cases h
  ·rename_i n hn
   split at h
   ·rename_i hc
    injection h with h
    obtain⟨e,_⟩:=zkz hp
    obtain⟨_,hd⟩:=zkq hn
    have hl:s.length=n:=by rw[←h,List.length_take];omega
    refine⟨by omega,p.2.drop (n+2),?_⟩
    unfold zc9
    rw[hl,hd,e]
    have h2:p.2=p.2.take n++((p.2.drop n).take 2++(p.2.drop n).drop 2):=by rw[List.take_append_drop,List.take_append_drop]
    conv=>lhs;rw[h2]
    rw[hc.2.2,h,List.drop_drop]
    simp
   ·cases h
def zme:Nat→List UInt8→List (List UInt8)×Nat
 | 0,_=>([],0)
 | f+1,b=>match zkg b with
  | none=>([],0)
  | some s=>(s::(zme f (b.drop (zc9 s).length)).1,(zc9 s).length+(zme f (b.drop (zc9 s).length)).2)
theorem zh3{b:List UInt8}(h:zkg b=none)(f:Nat):zme f b=([],0):=by
 cases f with
 | zero=>rfl
 | succ f=>unfold zme;rw[h]
theorem zkl{b s:List UInt8}(h:zkg b=some s)(f:Nat):zme (f+1) b=(s::(zme f (b.drop (zc9 s).length)).1,(zc9 s).length+(zme f (b.drop (zc9 s).length)).2):=by
 conv=>lhs;unfold zme
 rw[h]
theorem zju{b s:List UInt8}(h:zkg b=some s):(zc9 s).length≤b.length:=by
 obtain⟨_,r,rfl⟩:=ymm h
 simp
theorem zzm:∀(f g:Nat)(b:List UInt8),b.length≤f→f≤g→zme f b=zme g b:=by
 intro f
 induction f with
 | zero=>
  intro g b hb _
  have:b=[]:=List.eq_nil_of_length_eq_zero (by omega)
  subst this
  rw[zh3 (by rfl) g];rfl
 | succ f ih=>
  intro g b hb hg
  obtain⟨g,rfl⟩:∃k,g=k+1:=⟨g - 1,by omega⟩
  cases h:zkg b with
  | none=>rw[zh3 h,zh3 h]
  | some s=>
   have h1:=zju h
   have h2:=zh2 s
   rw[zkl h,zkl h,ih g _ (by rw[List.length_drop];omega) (by omega)]
def zas(b:List UInt8):List (List UInt8)×Nat:=zme b.length b
theorem ze8{b:List UInt8}(h:zkg b=none):zas b=([],0):=zh3 h _
theorem zh4{b s:List UInt8}(h:zkg b=some s):zas b=(s::(zas (b.drop (zc9 s).length)).1,(zc9 s).length+(zas (b.drop (zc9 s).length)).2):=by
 have h1:=zju h
 have h2:=zh2 s
 unfold zas
 obtain⟨n,hn⟩:∃n,b.length=n+1:=⟨b.length - 1,by omega⟩
 rw[hn,zkl h,zzm (b.drop (zc9 s).length).length n _ (Nat.le_refl _) (by rw[List.length_drop];omega)]
theorem zfk(b:List UInt8):(zas b).2≤b.length:=by
 have:∀(k:Nat)(b:List UInt8),b.length≤k→(zas b).2≤b.length:=by
  intro k
  induction k with
  | zero=>
   intro b hb
   have:b=[]:=List.eq_nil_of_length_eq_zero (by omega)
   subst this
   exact Nat.le_refl _
  | succ k ih=>
   intro b hb
   cases h:zkg b with
   | none=>rw[ze8 h];exact Nat.zero_le _
   | some s=>
    have h1:=zju h
    have h2:=zh2 s
    rw[zh4 h]
    have:=ih (b.drop (zc9 s).length) (by rw[List.length_drop];omega)
    rw[List.length_drop] at this
    simp only
    omega
 exact this b.length b (Nat.le_refl _)
theorem zhi(b:List UInt8):(zas b).1.length≤(zas b).2:=by
 have:∀(k:Nat)(b:List UInt8),b.length≤k→(zas b).1.length≤(zas b).2:=by
  intro k
  induction k with
  | zero=>
   intro b hb
   have:b=[]:=List.eq_nil_of_length_eq_zero (by omega)
   subst this
   exact Nat.le_refl _
  | succ k ih=>
   intro b hb
   cases h:zkg b with
   | none=>rw[ze8 h];exact Nat.zero_le _
   | some s=>
    have h2:=zh2 s
    have h3:=zju h
    rw[zh4 h]
    have:=ih (b.drop (zc9 s).length) (by rw[List.length_drop];omega)
    simp only[List.length_cons]
    omega
 exact this b.length b (Nat.le_refl _)
structure TP where
 b:List UInt8
 off:Bool
 cut:Int
def wrC(d:TP)(s:List UInt8):Nat:=if d.off=true then 12 else if 0≤d.cut∧d.cut<s.length then 12 else 0
def wrT(d:TP)(s:List UInt8):TP:=
 if d.off=true then d else if 0≤d.cut∧d.cut<s.length then ⟨d.b++s.take d.cut.toNat,true,d.cut⟩ else ⟨d.b++s,d.off,if 0≤d.cut then d.cut - s.length else d.cut⟩
def apC(d:TP)(s:List UInt8):Nat:=if 20000<s.length then 2 else if 1048576<d.b.length+(zc9 s).length then 8 else wrC d (zc9 s)
def apT(d:TP)(s:List UInt8):TP:=if 20000<s.length then d else if 1048576<d.b.length+(zc9 s).length then d else wrT d (zc9 s)
def ctC(d:TP)(n:Int):Nat:=if n<0 then 2 else if d.off=true then 12 else 0
def ctT(d:TP)(n:Int):TP:=if n<0 then d else if d.off=true then d else ⟨d.b,d.off,n⟩
def onT(d:TP):TP:=⟨d.b,false,-1⟩
def rcT(d:TP):TP:=⟨d.b.take (zas d.b).2,false,-1⟩
theorem yna(d:TP)(s:List UInt8):(wrT d s).b.length≤d.b.length+s.length:=by
 unfold wrT
 split
 ·omega
 ·split
  ·simp;omega
  ·simp
theorem ynb(d:TP)(s:List UInt8)(h:-1≤d.cut∧d.cut≤9223372036854775807):-1≤(wrT d s).cut∧(wrT d s).cut≤9223372036854775807:=by
 unfold wrT
 split
 ·exact h
 ·split
  ·exact h
  ·rename_i h1 h2
   simp only
   split
   ·omega
   ·exact h
theorem yps(d:TP)(s:List UInt8)(h:-1≤d.cut∧d.cut≤9223372036854775807):-1≤(apT d s).cut∧(apT d s).cut≤9223372036854775807:=by
 unfold apT
 split
 ·exact h
 ·split
  ·exact h
  ·exact ynb d _ h
def ziy(c:UInt8):List UInt8→List UInt8×List (List UInt8)
 | []=>([],[])
 | b::l=>if b=c then ([],(ziy c l).1::(ziy c l).2) else (b::(ziy c l).1,(ziy c l).2)
def zcn(c:UInt8)(l:List UInt8):List (List UInt8):=(ziy c l).1::(ziy c l).2
theorem zp0(c:UInt8)(l:List UInt8):ziy c (c::l)=([],(ziy c l).1::(ziy c l).2):=by
 conv=>lhs;unfold ziy
 rw[if_pos rfl]
theorem zuq{b c:UInt8}(h:b≠c)(l:List UInt8):ziy c (b::l)=(b::(ziy c l).1,(ziy c l).2):=by
 conv=>lhs;unfold ziy
 rw[if_neg h]
theorem zli(c:UInt8)(l:List UInt8):zcn c l=match zdu c l with|some p=>p.1::zcn c p.2|none=>[l]:=by
 induction l with
 | nil=>rfl
 | cons b l ih=>
  by_cases hb:b=c
  ·subst hb
   rw[zkb]
   unfold zcn
   rw[zp0]
  ·rw[znr hb]
   unfold zcn at ih ⊢
   rw[zuq hb]
   cases h:zdu c l with
   | none=>
    rw[h] at ih
    simp only[List.cons.injEq] at ih
    simp[ih.1,ih.2]
   | some p=>
    rw[h] at ih
    simp only[List.cons.injEq] at ih
    simp[ih.1,ih.2]
theorem zlh(c:UInt8)(l:List UInt8):(zcn c l).length=l.count c+1:=by
 induction l with
 | nil=>rfl
 | cons b l ih=>
  unfold zcn at ih ⊢
  by_cases hb:b=c
  ·subst hb
   rw[zp0,List.count_cons_self]
   simp only[List.length_cons] at ih ⊢
   omega
  ·rw[zuq hb,List.count_cons_of_ne (by simpa using hb)]
   simpa using ih
theorem ycn(c:UInt8):∀(k:Nat)(l:List UInt8),l.length≤k→(Lib.splitB (bs [c]) 0 (l.count c) (bs l))=(zcn c l).map bs:=by
 intro k
 induction k with
 | zero=>
  intro l hl
  have:l=[]:=List.eq_nil_of_length_eq_zero (by omega)
  subst this
  rfl
 | succ k ih=>
  intro l hl
  have hi:Lib.indexB (bs l) (bs [c])=Lib.index l [c]:=by unfold Lib.indexB;rw[zai,zai]
  rw[zs6] at hi
  rw[zli]
  cases h:zdu c l with
  | none=>
   rw[h] at hi
   rw[Lib.splitB_miss _ _ _ _ hi];rfl
  | some p=>
   rw[h] at hi
   simp only at hi
   obtain⟨e,hn⟩:=zkz h
   have hc:l.count c=p.2.count c+1:=by rw[e,List.count_append,List.count_eq_zero_of_not_mem hn,List.count_cons_self];omega
   rw[hc,Lib.splitB_hit _ _ _ _ _ hi]
   have e1:(bs l).extract 0 (p.1.length+0)=bs p.1:=by
    rw[zcv,zai,Nat.add_zero]
    congr 1
    rw[e];simp
   have e2:(bs l).extract (p.1.length+(bs [c]).size) (bs l).size=bs p.2:=by
    rw[zhv,zai,zae]
    congr 1
    rw[e];simp
   rw[e1,e2,ih p.2 (by rw[e] at hl;simp at hl;omega)]
   rfl
theorem yha(c:UInt8)(l:List UInt8):Lib.countB (bs l) (bs [c])=l.count c:=by unfold Lib.countB;rw[zai,zai,Lib.count_one]
theorem yqn(c:UInt8)(l:List UInt8):Lib.splitB (bs [c]) 0 (Lib.countB (bs l) (bs [c])) (bs l)=(zcn c l).map bs∧Lib.countB (bs l) (bs [c])+1=(zcn c l).length:=by
 rw[yha,zlh]
 exact⟨ycn c l.length l (Nat.le_refl _),rfl⟩
theorem yco{c:UInt8}{l:List UInt8}(h:c∉l):zcn c l=[l]:=by rw[zli,cutC_none.2 h]
theorem yim{c:UInt8}{a:List UInt8}(h:c∉a)(r:List UInt8):zcn c (a++c::r)=a::zcn c r:=by rw[zli,zv5 h]
theorem zlg{c:UInt8}:∀(k:Nat)(l:List UInt8),l.length≤k→∀x∈zcn c l,x.length≤l.length∧c∉x:=by
 intro k
 induction k with
 | zero=>
  intro l hl x hx
  have:l=[]:=List.eq_nil_of_length_eq_zero (by omega)
  subst this
  have:x=[]:=by simpa [zcn,ziy] using hx
  subst this
  exact⟨Nat.le_refl _,by simp⟩
 | succ k ih=>
  intro l hl x hx
  rw[zli] at hx
  cases h:zdu c l with
  | none=>
   rw[h] at hx
   simp at hx
   subst hx
   exact⟨Nat.le_refl _,cutC_none.1 h⟩
  | some p=>
   rw[h] at hx
   obtain⟨e,hn⟩:=zkz h
   have hlen:l.length=p.1.length+p.2.length+1:=by rw[e];simp;omega
   rcases List.mem_cons.1 hx with rfl|hx
   ·exact⟨by omega,hn⟩
   ·have:=ih p.2 (by omega) x hx
    exact⟨by omega,this.2⟩
end Go.Proofs.YtakhkcaihhpehaaGreatDoor
