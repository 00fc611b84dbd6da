/- Texts of one proof, one behind the other: Plain, NumPlain, Crc, BlkPlain, ChkPlain, OpPlain. -/
import Derived.WalkKit
import Derived.Lib.Hide
import Derived.Laws.BitsAllLaws
namespace Go.Proofs.YtakhkcaihhpehaaGreatDoor
open Go.RowKit
open Lib (hid)
set_option linter.unusedVariables false
set_option maxRecDepth 100000
set_option maxHeartbeats 51200000
theorem zc0{k:IntKind}{a b:Int}(h:a=b):Ending.returned (.int k a)=.returned (.int k b):=by rw[h]
theorem zjm{a b:Bool}(h:a=b):Ending.returned (.bool a)=.returned (.bool b):=by rw[h]
theorem zok{a b:ByteArray}(h:a=b):Ending.returned (.string a)=.returned (.string b):=by rw[h]
theorem zje(s:ByteArray)(k:Nat)(h:k<s.size):s.data.toList.take (k+1)=s.data.toList.take k++[s[k]]:=by
 rw[List.take_succ_eq_append_getElem (by simpa using h)];rfl
def wa:List UInt8→Nat
 | []=>0
 | c::l=>c.toNat+wa l
def wb:List UInt8→Nat
 | []=>0
 | c::l=>(l.length+1) * c.toNat+wb l
theorem zl3(l m:List UInt8):wa (l++m)=wa l+wa m:=by
 induction l with
 | nil=>simp[wa]
 | cons c l ih=>simp only[List.cons_append,wa,ih];omega
theorem zrt(l m:List UInt8):wb (l++m)=wb l+m.length * wa l+wb m:=by
 induction l with
 | nil=>simp[wa,wb]
 | cons c l ih=>
  simp only[List.cons_append,wa,wb,ih,List.length_append,Nat.mul_add,Nat.add_mul]
  have:=Nat.mul_comm m.length c.toNat
  have:=Nat.mul_comm l.length c.toNat
  omega
theorem wa_le(l:List UInt8):wa l≤255 * l.length:=by
 induction l with
 | nil=>simp[wa]
 | cons c l ih=>simp only[wa,List.length_cons];have:=c.toNat_lt;omega
def ws(l:List UInt8):Int:=((wa l % 65536+65536 * (wb l % 65536):Nat):Int)
theorem ym8(l:List UInt8):0≤ws l∧ws l<4294967296:=by unfold ws;omega
def zi1(a:Int):Bool:=decide (0≤a) && decide (a<4294967296)
theorem znf(a:Int):zi1 a=true↔0≤a∧a<4294967296:=by simp[zi1]
attribute [irreducible] zi1 wa wb ws
def bs(l:List UInt8):ByteArray:=⟨l.toArray⟩
@[simp,go_sem] theorem zai (l:List UInt8):(bs l).data.toList=l:=by simp[bs]
@[simp,go_sem] theorem zae (l:List UInt8):(bs l).size=l.length:=by simp[bs,ByteArray.size]
theorem zoa(s:ByteArray):bs s.data.toList=s:=by simp[bs]
theorem zg0{a:ByteArray}{l:List UInt8}(h:a.data.toList=l):a=bs l:=by rw[←h,zoa]
theorem zhv(s:ByteArray)(k:Nat):s.extract k s.size=bs (s.data.toList.drop k):=by
 rw[←zoa (s.extract k s.size)]
 congr 1
 simp
 rw[List.take_of_length_le (by simp)]
theorem zcv(s:ByteArray)(k:Nat):s.extract 0 k=bs (s.data.toList.take k):=by
 rw[←zoa (s.extract 0 k)]
 simp
theorem bs_nil:bs []=⟨#[]⟩:=rfl
attribute [irreducible] bs
def zst:Nat→Nat→List UInt8
 | 0,n=>[UInt8.ofNat n]
 | k+1,n=>if n<128 then [UInt8.ofNat n] else UInt8.ofNat (n % 128+128)::zst k (n / 128)
def num(n:Nat):List UInt8:=zst 6 n
theorem zot(k n:Nat)(h:n<128):zst k n=[UInt8.ofNat n]:=by
 cases k with
 | zero=>rfl
 | succ k=>simp[zst,h]
theorem zxr(k n:Nat)(h:128≤n):zst (k+1) n=UInt8.ofNat (n % 128+128)::zst k (n / 128):=by
 simp[zst,show ¬n<128 by omega]
theorem yjq(k:Nat):∀n,(zst k n).length≤k+1:=by
 induction k with
 | zero=>intro n;simp[zst]
 | succ k ih=>
  intro n
  unfold zst
  split
  ·simp
  ·simp only[List.length_cons];have:=ih (n / 128);omega
theorem yjp(k n:Nat):0<(zst k n).length:=by
 cases k with
 | zero=>simp[zst]
 | succ k=>unfold zst;split<;>simp
theorem zar(n:Nat):(num n).length≤7:=yjq 6 n
theorem zkp(n:Nat):0<(num n).length:=yjp 6 n
def zir:Nat→Nat→Nat→List UInt8→Nat×List UInt8×Nat
 | 0,_,_,_=>(0,[],1)
 | _+1,_,_,[]=>(0,[],1)
 | k+1,i,acc,c::l=>
  if 128≤c.toNat then zir k (i+1) (acc+c.toNat % 128 * 128 ^ i) l
  else if c.toNat=0∧0<i then (0,[],1)
  else if 1099511627776<acc+c.toNat % 128 * 128 ^ i then (0,[],2)
  else (acc+c.toNat % 128 * 128 ^ i,l,0)
theorem zx7(k i acc:Nat):zir k i acc []=(0,[],1):=by cases k<;>rfl
theorem zx8(i acc:Nat)(l:List UInt8):zir 0 i acc l=(0,[],1):=rfl
theorem znh{k i acc:Nat}{c:UInt8}{l:List UInt8}(h:128≤c.toNat):zir (k+1) i acc (c::l)=zir k (i+1) (acc+c.toNat % 128 * 128 ^ i) l:=by simp[zir,h]
theorem ztd{k i acc:Nat}{c:UInt8}{l:List UInt8}(h:c.toNat=0)(hi:0<i):zir (k+1) i acc (c::l)=(0,[],1):=by simp[zir,h,hi]
theorem zte{k i acc:Nat}{c:UInt8}{l:List UInt8}(h:c.toNat<128)(h0:¬(c.toNat=0∧0<i))(hn:1099511627776<acc+c.toNat % 128 * 128 ^ i):zir (k+1) i acc (c::l)=(0,[],2):=by
 simp only[zir];rw[if_neg (by omega),if_neg h0,if_pos hn]
theorem zj5{k i acc:Nat}{c:UInt8}{l:List UInt8}(h:c.toNat<128)(h0:¬(c.toNat=0∧0<i))(hn:¬1099511627776<acc+c.toNat % 128 * 128 ^ i):zir (k+1) i acc (c::l)=(acc+c.toNat % 128 * 128 ^ i,l,0):=by
 simp only[zir];rw[if_neg (by omega),if_neg h0,if_neg hn]
def yh3(l:List UInt8):Nat×List UInt8×Nat:=zir 6 0 0 l
def gN(l:List UInt8):Nat:=(yh3 l).1
def gR(l:List UInt8):List UInt8:=(yh3 l).2.1
def gC(l:List UInt8):Nat:=(yh3 l).2.2
theorem yf8(k:Nat):∀i acc l,(zir k i acc l).2.2=0∨((zir k i acc l).2.2=1∨(zir k i acc l).2.2=2)∧(zir k i acc l).1=0∧(zir k i acc l).2.1=[]:=by
 induction k with
 | zero=>intro i acc l;simp[zir]
 | succ k ih=>
  intro i acc l
  cases l with
  | nil=>simp[zir]
  | cons c l=>
   unfold zir
   split
   ·exact ih _ _ _
   ·split
    ·simp
    ·split<;>simp
theorem ykq(l:List UInt8):gC l=0∨(gC l=1∨gC l=2)∧gN l=0∧gR l=[]:=yf8 6 0 0 l
theorem zo6(k:Nat):∀i acc l,(zir k i acc l).1≤1099511627776∧(zir k i acc l).2.1.length≤l.length:=by
 induction k with
 | zero=>intro i acc l;simp[zir]
 | succ k ih=>
  intro i acc l
  cases l with
  | nil=>simp[zir]
  | cons c l=>
   unfold zir
   split
   ·have:=ih (i+1) (acc+c.toNat % 128 * 128 ^ i) l
    exact⟨this.1,by simp only[List.length_cons];omega⟩
   ·split
    ·simp
    ·split
     ·simp
     ·simp only[List.length_cons];omega
theorem gN_le(l:List UInt8):gN l≤1099511627776:=(zo6 6 0 0 l).1
theorem yga(l:List UInt8):(gR l).length≤l.length:=(zo6 6 0 0 l).2
theorem zcs(n:Nat)(h:n<256):(UInt8.ofNat n).toNat=n:=by simp;omega
theorem yko(k:Nat):∀(j i acc m:Nat)(more:List UInt8),m<128 ^ k→m<128 ^ (j+1)→(i=0∨0<m)→acc+m * 128 ^ i≤1099511627776→0<k→
  zir k i acc (zst j m++more)=(acc+m * 128 ^ i,more,0):=by
 induction k with
 | zero=>intro j i acc m more _ _ _ _ h;omega
 | succ k ih=>
  intro j i acc m more hk hj hi hb _
  by_cases hm:m<128
  ·rw[zot j m hm]
   have e:(UInt8.ofNat m).toNat=m:=zcs m (by omega)
   have e2:m % 128=m:=by omega
   show zir (k+1) i acc (UInt8.ofNat m::more)=_
   rw[zj5 (by omega) (by omega) (by rw[e,e2];omega),e,e2]
  ·obtain⟨j',rfl⟩:∃j',j=j'+1:=by
    cases j with
    | zero=>simp at hj;omega
    | succ j'=>exact⟨j',rfl⟩
   rw[zxr j' m (by omega)]
   have e:(UInt8.ofNat (m % 128+128)).toNat=m % 128+128:=zcs _ (by omega)
   show zir (k+1) i acc (UInt8.ofNat (m % 128+128)::(zst j' (m / 128)++more))=_
   rw[znh (by omega),e]
   have e2:(m % 128+128) % 128=m % 128:=by omega
   rw[e2]
   have hk2:m / 128<128 ^ k:=by rw[Nat.pow_succ] at hk;omega
   have hj2:m / 128<128 ^ (j'+1):=by rw[Nat.pow_succ] at hj;omega
   have hkp:0<k:=by
    cases k with
    | zero=>simp at hk;omega
    | succ k=>omega
   have hsum:acc+m % 128 * 128 ^ i+m / 128 * 128 ^ (i+1)=acc+m * 128 ^ i:=by
    rw[Nat.pow_succ,Nat.mul_comm (128 ^ i) 128,←Nat.mul_assoc,Nat.add_assoc,←Nat.add_mul]
    have:m % 128+m / 128 * 128=m:=by omega
    rw[this]
   rw[ih j' (i+1) (acc+m % 128 * 128 ^ i) (m / 128) more hk2 hj2 (by omega) (by omega) hkp,hsum]
theorem zq3(n:Nat)(more:List UInt8)(h:n≤1099511627776):yh3 (num n++more)=(n,more,0):=by
 have:=yko 6 6 0 0 n more (by omega) (by omega) (by omega) (by omega) (by omega)
 simpa [yh3,num] using this
theorem ygb(n:Nat)(more:List UInt8)(h:n≤1099511627776):gN (num n++more)=n:=by unfold gN;rw[zq3 n more h]
theorem yf9(n:Nat)(more:List UInt8)(h:n≤1099511627776):gR (num n++more)=more:=by unfold gR;rw[zq3 n more h]
theorem ygc(n:Nat)(more:List UInt8)(h:n≤1099511627776):gC (num n++more)=0:=by unfold gC;rw[zq3 n more h]
def ymh(n:Int):Nat:=if 0≤n∧n≤1099511627776 then 0 else 2
def ydy(n:Int):List UInt8:=if 0≤n∧n≤1099511627776 then num n.toNat else []
def ptC(l:List UInt8):Nat:=if l.length≤20000 then 0 else 2
def ptL(l:List UInt8):List UInt8:=if l.length≤20000 then num l.length++l else []
def tC(l:List UInt8):Nat:=if gC l≠0 then gC l else if 20000<gN l then 2 else if (gR l).length<gN l then 1 else 0
def tT(l:List UInt8):List UInt8:=if tC l=0 then (gR l).take (gN l) else []
def tR(l:List UInt8):List UInt8:=if tC l=0 then (gR l).drop (gN l) else []
theorem zh5{n:Int}(h:0≤n∧n≤1099511627776):ymh n=0∧ydy n=num n.toNat:=by simp[ymh,ydy,h]
theorem zu6{n:Int}(h:¬(0≤n∧n≤1099511627776)):ymh n=2∧ydy n=[]:=by
 constructor
 ·unfold ymh;rw[if_neg h]
 ·unfold ydy;rw[if_neg h]
theorem zqk{l:List UInt8}(h:l.length≤20000):ptC l=0∧ptL l=num l.length++l:=by simp[ptC,ptL,h]
theorem ymj{l:List UInt8}(h:¬l.length≤20000):ptC l=2∧ptL l=[]:=by
 constructor
 ·unfold ptC;rw[if_neg h]
 ·unfold ptL;rw[if_neg h]
theorem zrv(l more:List UInt8)(h:l.length≤20000):tC (num l.length++l++more)=0∧tT (num l.length++l++more)=l∧tR (num l.length++l++more)=more:=by
 have hn:l.length≤1099511627776:=by omega
 have h1:=ygb l.length (l++more) hn
 have h2:=yf9 l.length (l++more) hn
 have h3:=ygc l.length (l++more) hn
 rw[←List.append_assoc] at h1 h2 h3
 have h0:tC (num l.length++l++more)=0:=by
  unfold tC
  rw[h3,h2,h1,if_neg (by simp),if_neg (by omega),if_neg (by simp)]
 exact⟨h0,by unfold tT;rw[if_pos h0,h1,h2];simp,by unfold tR;rw[if_pos h0,h1,h2];simp⟩
theorem yl3(l:List UInt8):(tT l).length≤20000∧(tT l).length≤l.length∧(tR l).length≤l.length:=by
 have h1:=yga l
 unfold tT tR
 split
 ·rename_i h
  unfold tC at h
  split at h
  ·omega
  ·split at h
   ·simp at h
   ·split at h
    ·simp at h
    ·refine⟨?_,?_,?_⟩<;>simp<;>omega
 ·simp
attribute [irreducible] zst num zir yh3 gN gR gC ymh ydy ptC ptL tC tT tR
def cs(c:Nat):Nat:=if c % 2=1 then (c / 2) ^^^ 3988292384 else c / 2
def zed:Nat→Nat→Nat
 | 0,c=>c
 | n+1,c=>zed n (cs c)
def cf(c:Nat)(b:UInt8):Nat:=zed 8 (c ^^^ b.toNat)
def zij(c:Nat)(l:List UInt8):Nat:=l.foldl cf c
def zn8(c:Nat)(l:List UInt8):Nat:=zij (c ^^^ 4294967295) l ^^^ 4294967295
def za5(l:List UInt8):Nat:=zn8 0 l
theorem zez{a b:Nat}(ha:a<4294967296)(hb:b<4294967296):a ^^^ b<4294967296:=
 Nat.xor_lt_two_pow (n:=32) ha hb
theorem zpr(a b c:Nat):(a ^^^ b) ^^^ c=(a ^^^ c) ^^^ b:=by rw[Nat.xor_assoc,Nat.xor_comm b c,←Nat.xor_assoc]
theorem zwm(a b:Nat):(a ^^^ b) ^^^ b=a:=by rw[Nat.xor_assoc,Nat.xor_self,Nat.xor_zero]
theorem yrn{c:Nat}(h:c<4294967296):cs c<4294967296:=by
 unfold cs;split
 ·exact zez (by omega) (by omega)
 ·omega
theorem ykg(a b:Nat):(a ^^^ b) / 2=(a / 2) ^^^ (b / 2):=by
 apply Nat.eq_of_testBit_eq
 intro i
 simp[Nat.testBit_div_two,Nat.testBit_xor]
theorem yrm(a b:Nat):cs (a ^^^ b)=cs a ^^^ cs b:=by
 have h2:=ykg a b
 have h1:(a ^^^ b) % 2=(a+b) % 2:=by
  have h:(a ^^^ b) % 2 ^ 1=a % 2 ^ 1 ^^^ b % 2 ^ 1:=Nat.xor_mod_two_pow
  rw[Nat.pow_one] at h
  rw[h,Nat.add_mod]
  rcases Nat.mod_two_eq_zero_or_one a with ha|ha<;>rcases Nat.mod_two_eq_zero_or_one b with hb|hb<;>rw[ha,hb]<;>rfl
 unfold cs
 rcases Nat.mod_two_eq_zero_or_one a with ha|ha<;>rcases Nat.mod_two_eq_zero_or_one b with hb|hb
 ·rw[if_neg (by omega),if_neg (by omega),if_neg (by omega),h2]
 ·rw[if_pos (by omega),if_neg (by omega),if_pos (by omega),h2,Nat.xor_assoc]
 ·rw[if_pos (by omega),if_pos (by omega),if_neg (by omega),h2,zpr]
 ·rw[if_neg (by omega),if_pos (by omega),if_pos (by omega),h2]
  rw[←Nat.xor_assoc,zpr (a / 2),zwm]
theorem yo6{d:Nat}(h:d<4294967296)(h0:cs d=0):d=0:=by
 unfold cs at h0
 split at h0
 ·have:d / 2=3988292384:=by
   have:=congrArg (· ^^^ 3988292384) h0
   simp only[zwm,Nat.zero_xor] at this
   exact this
  omega
 ·omega
theorem zlv(n:Nat):∀{c:Nat},c<4294967296→zed n c<4294967296:=by
 induction n with
 | zero=>exact fun h=>h
 | succ n ih=>exact fun h=>ih (yrn h)
theorem ztw(n:Nat):∀a b:Nat,zed n (a ^^^ b)=zed n a ^^^ zed n b:=by
 induction n with
 | zero=>exact fun _ _=>rfl
 | succ n ih=>exact fun a b=>by simp only[zed,yrm,ih]
theorem ztx(m n:Nat):∀c:Nat,zed (m+n) c=zed n (zed m c):=by
 induction m with
 | zero=>intro c;simp[zed]
 | succ m ih=>intro c;rw[Nat.succ_add];simp only[zed,ih]
theorem zpk(n c:Nat):zed (n+1) c=cs (zed n c):=by rw[ztx];rfl
theorem zpj(n:Nat):∀{d:Nat},d<4294967296→zed n d=0→d=0:=by
 induction n with
 | zero=>exact fun _ h=>h
 | succ n ih=>exact fun h h0=>yo6 h (ih (yrn h) h0)
theorem zi5(b:UInt8):b.toNat<4294967296:=by have:=b.toNat_lt;omega
theorem cf_lt{c:Nat}(h:c<4294967296)(b:UInt8):cf c b<4294967296:=zlv 8 (zez h (zi5 b))
theorem zv7(l:List UInt8):∀{c:Nat},c<4294967296→zij c l<4294967296:=by
 induction l with
 | nil=>exact fun h=>h
 | cons b l ih=>exact fun h=>ih (cf_lt h b)
theorem zns(c:Nat)(s t:List UInt8):zij c (s++t)=zij (zij c s) t:=by simp[zij]
theorem ztu(c:Nat)(s:List UInt8)(b:UInt8):zij c (s++[b])=cf (zij c s) b:=by simp[zij]
theorem yro(a d:Nat)(b:UInt8):cf (a ^^^ d) b=cf a b ^^^ zed 8 d:=by
 unfold cf;rw[zpr,ztw]
theorem yld(l:List UInt8):∀a d:Nat,zij (a ^^^ d) l=zij a l ^^^ zed (8 * l.length) d:=by
 induction l with
 | nil=>exact fun _ _=>rfl
 | cons b l ih=>
  intro a d
  show zij (cf (a ^^^ d) b) l=zij (cf a b) l ^^^ _
  rw[yro,ih,←ztx,List.length_cons,show 8+8 * l.length=8 * (l.length+1) by omega]
theorem ylf{c:Nat}(h:c<4294967296)(l:List UInt8):zn8 c l<4294967296:=
 zez (zv7 l (zez h (by omega))) (by omega)
theorem zdv(l:List UInt8):za5 l<4294967296:=ylf (by omega) l
theorem yg9(pre post:List UInt8)(b x:UInt8):za5 (pre++(b ^^^ x)::post)=za5 (pre++b::post) ^^^ zed (8 * post.length) (zed 8 x.toNat):=by
 have h:∀c:Nat,cf c (b ^^^ x)=cf c b ^^^ zed 8 x.toNat:=by
  intro c
  unfold cf
  rw[UInt8.toNat_xor,←Nat.xor_assoc,ztw]
 unfold za5 zn8
 rw[zns,zns]
 show zij (cf _ (b ^^^ x)) post ^^^ _=(zij (cf _ b) post ^^^ _) ^^^ _
 rw[h,yld,zpr]
theorem ztt(pre post:List UInt8)(b x:UInt8)(hx:x.toNat≠0):za5 (pre++(b ^^^ x)::post)≠za5 (pre++b::post):=by
 rw[yg9]
 intro h
 have h2:=congrArg (za5 (pre++b::post) ^^^ ·) h
 simp only[←Nat.xor_assoc,Nat.xor_self,Nat.zero_xor] at h2
 exact hx (zpj 8 (zi5 x) (zpj _ (zlv 8 (zi5 x)) h2))
theorem ya8(l:List UInt8)(p:Nat)(x:UInt8)(h:p<l.length):l.set p (l[p] ^^^ x)=l.take p++(l[p] ^^^ x)::l.drop (p+1)∧l=l.take p++l[p]::l.drop (p+1):=by
 constructor
 ·rw[List.set_eq_take_append_cons_drop,if_pos h]
 ·rw[←List.drop_eq_getElem_cons h,List.take_append_drop]
theorem yo7(c:Nat)(h:c<4294967296):bits .xor .u32 ((c:Int) / 2) (3988292384 * bits .and .u32 (c:Int) 1 % 4294967296)=(cs c:Int):=by
 have h1:=u32_and_nat c 1 h (by omega)
 rw[show((1:Nat):Int)=1 from rfl] at h1
 rw[h1,nat_mask1]
 have h2:((c:Int) / 2)=((c / 2:Nat):Int):=rfl
 rw[h2]
 unfold cs
 split
 ·rename_i hc
  rw[hc]
  exact u32_xor_nat (c / 2) 3988292384 (by omega) (by omega)
 ·rename_i hc
  have hc0:c % 2=0:=by omega
  rw[hc0]
  have:=u32_xor_nat (c / 2) 0 (by omega) (by omega)
  simpa using this
theorem zxs(c:Nat)(h:c<4294967296):bits .xor .u32 IntKind.u32.max (c:Int)=((c ^^^ 4294967295:Nat):Int):=by
 have:=u32_xor_nat 4294967295 c (by omega) h
 rw[Nat.xor_comm] at this
 exact this
theorem zxp(a:Nat)(ha:a<9223372036854775808):(BitVec.ofInt 64 (a:Int)).toNat=a:=by
 rw[BitVec.ofInt_natCast,BitVec.toNat_ofNat];exact Nat.mod_eq_of_lt (by omega)
theorem zgx(a b:Nat)(ha:a<4294967296)(hb:b<4294967296):bits .xor .i64 (a:Int) (b:Int)=((a ^^^ b:Nat):Int):=by
 have hx:=zez ha hb
 show IntKind.i64.wrap ((BitVec.ofInt 64 (a:Int) ^^^ BitVec.ofInt 64 (b:Int)).toNat:Int)=_
 rw[BitVec.toNat_xor,zxp a (by omega),zxp b (by omega)]
 simp only[IntKind.wrap,IntKind.bits,IntKind.signed]
 simp
 omega
attribute [irreducible] cs zed cf zij zn8 za5
theorem zcy{α:Type}(f:α→List Value)(k:Nat)(hf:∀a,(f a).length=k):∀(l:List α)(i j:Nat)(hi:i<l.length),j<k→(l.flatMap f)[i * k+j]?=(f l[i])[j]?
 | [],i,j,hi,_=>by simp at hi
 | a::l,0,j,_,hj=>by
  simp only[List.flatMap_cons,Nat.zero_mul,Nat.zero_add,List.getElem_cons_zero]
  rw[List.getElem?_append_left (by rw[hf];exact hj)]
 | a::l,i+1,j,hi,hj=>by
  simp only[List.flatMap_cons,List.getElem_cons_succ]
  have e:(i+1) * k+j=k+(i * k+j):=by rw[Nat.add_mul];omega
  rw[e,List.getElem?_append_right (by rw[hf];omega),hf]
  have e2:k+(i * k+j) - k=i * k+j:=by omega
  rw[e2]
  exact zcy f k hf l i j (by simpa using hi) hj
theorem zlq{α:Type}(f:α→List Value)(k:Nat)(hf:∀a,(f a).length=k)(l:List α):(l.flatMap f).length=l.length * k:=by
 induction l with
 | nil=>simp
 | cons a l ih=>simp only[List.flatMap_cons,List.length_append,hf,ih,List.length_cons,Nat.add_mul];omega
structure Blk where
 N:Int
 W:Int
 S:Nat
deriving DecidableEq
def Blk.cells(b:Blk):List Value:=[.int .i64 b.N,.int .i64 b.W,.int .u32 b.S]
theorem Blk.cells_len(b:Blk):b.cells.length=3:=rfl
def zba(l:List Blk):List Value:=l.flatMap Blk.cells
theorem zfg(l:List Blk):(zba l).length=l.length * 3:=zlq _ 3 Blk.cells_len l
theorem zgk(l:List Blk)(i:Nat)(hi:i<l.length):(zba l)[i * 3]?=some (.int .i64 l[i].N)∧(zba l)[i * 3+1]?=some (.int .i64 l[i].W)∧(zba l)[i * 3+2]?=some (.int .u32 l[i].S):=
 ⟨zcy _ 3 Blk.cells_len l i 0 hi (by omega),zcy _ 3 Blk.cells_len l i 1 hi (by omega),zcy _ 3 Blk.cells_len l i 2 hi (by omega)⟩
theorem zdx(a b:List Blk):zba (a++b)=zba a++zba b:=by simp[zba]
theorem zdl(b:Blk):zba [b]=b.cells:=by simp[zba]
theorem zgj:zba []=[]:=rfl
theorem zi7(l:List Blk):∀u∈zba l,u.oneCell'=true:=by
 intro u hu
 obtain⟨b,_,hb⟩:=List.mem_flatMap.1 hu
 simp[Blk.cells] at hb
 rcases hb with rfl|rfl|rfl<;>rfl
def blk(l:List UInt8):Blk:=⟨l.length,ws l,za5 l⟩
theorem zny(l:List UInt8):blk l=⟨l.length,ws l,za5 l⟩:=rfl
def zf2(size:Nat)(l:List UInt8)(j:Nat):List Blk:=(List.range j).map fun i=>blk ((l.drop (i * size)).take size)
def zc8(size len:Nat):Nat:=(len+size - 1) / size
def zeu(size:Nat)(l:List UInt8):List Blk:=zf2 size l (zc8 size l.length)
theorem yhp(size:Nat)(l:List UInt8)(j:Nat):(zf2 size l j).length=j:=by simp[zf2]
theorem ze5(size:Nat)(l:List UInt8):(zeu size l).length=zc8 size l.length:=yhp _ _ _
theorem zpm(size:Nat)(l:List UInt8)(j:Nat):zf2 size l (j+1)=zf2 size l j++[blk ((l.drop (j * size)).take size)]:=by simp[zf2,List.range_succ]
theorem zpl(size:Nat)(l:List UInt8):zf2 size l 0=[]:=rfl
theorem ymw{size len j:Nat}(h1:len≤j * size)(h2:j * size<len+size):zc8 size len=j:=by
 unfold zc8
 refine Nat.div_eq_of_lt_le ?_ ?_
 ·omega
 ·rw[Nat.add_mul];omega
theorem ymv(size len:Nat)(hs:0<size):zc8 size len≤len:=by
 unfold zc8
 by_cases h:len=0
 ·subst h;rw[Nat.div_eq_of_lt (by omega)];omega
 ·refine Nat.div_le_of_le_mul ?_
  have:=Nat.mul_le_mul_right len (show 1≤size by omega)
  have h3:len+size≤size * len+1:=by
   have h4:(size - 1) * (len - 1)+(size - 1)+(len - 1)+1=size * len:=by
    obtain⟨a,rfl⟩:∃a,size=a+1:=⟨size - 1,by omega⟩
    obtain⟨b,rfl⟩:∃b,len=b+1:=⟨len - 1,by omega⟩
    simp only[Nat.add_sub_cancel,Nat.add_mul,Nat.mul_add];omega
   omega
  omega
def za8(b:Int):Nat:=if b≤16 then 4 else if b≤64 then 8 else if b≤256 then 16 else if b≤1024 then 32 else 64
theorem zgr(b:Int):za8 b=4∨za8 b=8∨za8 b=16∨za8 b=32∨za8 b=64:=by
 unfold za8;(repeat' split)<;>simp
def yl5:Value→Nat
 | .string s=>s.size
 | _=>0
theorem zjf(s:ByteArray):yl5 (.string s)=s.size:=rfl
def zf0:List Blk→Blk→Nat→Int
 | [],_,_=>-1
 | b::l,x,i=>if b=x then i else zf0 l x (i+1)
def zeo(l:List Blk)(x:Blk):Int:=zf0 l x 0
theorem zpb(b:Blk)(l:List Blk)(x:Blk)(i:Nat):zf0 (b::l) x i=if b=x then (i:Int) else zf0 l x (i+1):=rfl
theorem zix(l:List Blk)(x:Blk)(i:Nat)(h:i<l.length)(e:l[i]=x):zf0 (l.drop i) x i=i:=by
 rw[List.drop_eq_getElem_cons h];simp[zf0,e]
theorem zhs(l:List Blk)(x:Blk)(i:Nat)(h:i<l.length)(e:¬l[i]=x):zf0 (l.drop i) x i=zf0 (l.drop (i+1)) x (i+1):=by
 rw[List.drop_eq_getElem_cons h];simp[zf0,e]
theorem zj8(l:List Blk)(x:Blk)(i:Nat)(h:l.length≤i):zf0 (l.drop i) x i=-1:=by
 rw[List.drop_eq_nil_of_le h];rfl
attribute [irreducible] zba blk zf2 zc8 za8 zf0
theorem zhp(l:List Blk)(k:Nat)(h:k<l.length):(l.drop (k+1)).isEmpty=decide (l.length=k+1):=by
 rw[Bool.eq_iff_iff];simp;omega
def zyx(b:Blk)(size:Int)(last:Bool):Prop:=b.N<1∨size<b.N∨b.N<size∧last=false∨b.W<0∨4294967296≤b.W
instance (b:Blk) (size:Int) (last:Bool):Decidable (zyx b size last):=by unfold zyx;infer_instance
def zlw(size:Int):List Blk→Nat→Int→Nat×Int
 | [],_,_=>(0,-1)
 | b::l,i,all=>if zyx b size l.isEmpty then (2,i) else if 4000<all+b.N then (8,i) else zlw size l (i+1) (all+b.N)
def chk(l:List Blk)(size:Int):Nat×Int:=if 1≤size∧size≤64 then zlw size l 0 0 else (2,-1)
theorem zys{size:Int}{l:List Blk}{k:Nat}{all:Int}(h:k<l.length)(hb:zyx l[k] size (decide (l.length=k+1))):zlw size (l.drop k) k all=(2,(k:Int)):=by
 rw[List.drop_eq_getElem_cons h]
 have:(l.drop (k+1)).isEmpty=decide (l.length=k+1):=zhp l k h
 rw[zlw,this,if_pos hb]
theorem zty{size:Int}{l:List Blk}{k:Nat}{all:Int}(h:k<l.length)(hb:¬zyx l[k] size (decide (l.length=k+1)))(hf:4000<all+l[k].N):zlw size (l.drop k) k all=(8,(k:Int)):=by
 rw[List.drop_eq_getElem_cons h]
 have:(l.drop (k+1)).isEmpty=decide (l.length=k+1):=zhp l k h
 rw[zlw,this,if_neg hb,if_pos hf]
theorem znv{size:Int}{l:List Blk}{k:Nat}{all:Int}(h:k<l.length)(hb:¬zyx l[k] size (decide (l.length=k+1)))(hf:¬4000<all+l[k].N):zlw size (l.drop k) k all=zlw size (l.drop (k+1)) (k+1) (all+l[k].N):=by
 rw[List.drop_eq_getElem_cons h]
 have:(l.drop (k+1)).isEmpty=decide (l.length=k+1):=zhp l k h
 rw[zlw,this,if_neg hb,if_neg hf]
theorem zrg{size:Int}{l:List Blk}{k:Nat}{all:Int}(h:l.length≤k):zlw size (l.drop k) k all=(0,-1):=by
 rw[List.drop_eq_nil_of_le h,zlw]
theorem zyr{l:List Blk}{size:Int}(h:¬(1≤size∧size≤64)):chk l size=(2,-1):=by unfold chk;rw[if_neg h]
theorem znu{l:List Blk}{size:Int}(h:1≤size∧size≤64):chk l size=zlw size l 0 0:=by unfold chk;rw[if_pos h]
theorem ypc(size:Int):∀(l:List Blk)(i:Nat)(all:Int),(zlw size l i all).1=0→all+l.length≤4000∨l=[]:=by
 intro l
 induction l with
 | nil=>intro i all _;exact .inr rfl
 | cons b l ih=>
  intro i all h
  rw[zlw] at h
  split at h
  ·simp at h
  ·rename_i hb
   split at h
   ·simp at h
   ·rename_i hf
    left
    have hN:1≤b.N:=by unfold zyx at hb;omega
    rcases ih _ _ h with h1|h1
    ·simp only[List.length_cons];omega
    ·subst h1;simp;omega
theorem yhk(size:Int):∀(l:List Blk)(i:Nat)(all:Int),(zlw size l i all).1=0→∀b∈l,1≤b.N∧b.N≤size∧0≤b.W∧b.W<4294967296:=by
 intro l
 induction l with
 | nil=>intro i all _ b hb;simp at hb
 | cons a l ih=>
  intro i all h b hb
  rw[zlw] at h
  split at h
  ·simp at h
  ·rename_i hn
   split at h
   ·simp at h
   ·rcases List.mem_cons.1 hb with rfl|hb
    ·unfold zyx at hn;omega
    ·exact ih _ _ h b hb
theorem zyq{l:List Blk}{size:Int}(h:(chk l size).1=0):1≤size∧size≤64∧l.length≤4000∧∀b∈l,1≤b.N∧b.N≤size∧0≤b.W∧b.W<4294967296:=by
 by_cases hs:1≤size∧size≤64
 ·rw[znu hs] at h
  refine⟨hs.1,hs.2,?_,yhk size l 0 0 h⟩
  rcases ypc size l 0 0 h with h1|h1
  ·omega
  ·subst h1;simp
 ·rw[zyr hs] at h;simp at h
attribute [irreducible] zlw chk
structure POp where
 kind:List UInt8
 a:Int
 n:Int
 data:List UInt8
deriving DecidableEq
def POp.vals(o:POp):List Value:=[.string (bs o.kind),.int .i64 o.a,.int .i64 o.n,.string (bs o.data)]
theorem POp.vals_len(o:POp):o.vals.length=4:=rfl
def za3(l:List POp):List Value:=l.flatMap POp.vals
theorem zgd(l:List POp):(za3 l).length=l.length * 4:=zlq _ 4 POp.vals_len l
theorem zh8(l:List POp)(i:Nat)(hi:i<l.length):(za3 l)[i * 4]?=some (.string (bs l[i].kind))∧(za3 l)[i * 4+1]?=some (.int .i64 l[i].a)∧(za3 l)[i * 4+2]?=some (.int .i64 l[i].n)∧(za3 l)[i * 4+3]?=some (.string (bs l[i].data)):=
 ⟨zcy _ 4 POp.vals_len l i 0 hi (by omega),zcy _ 4 POp.vals_len l i 1 hi (by omega),zcy _ 4 POp.vals_len l i 2 hi (by omega),zcy _ 4 POp.vals_len l i 3 hi (by omega)⟩
theorem zcl(a b:List POp):za3 (a++b)=za3 a++za3 b:=by simp[za3]
theorem zdi(b:POp):za3 [b]=b.vals:=by simp[za3]
theorem zfc:za3 []=[]:=rfl
theorem zvb(l:List POp):∀u∈za3 l,u.oneCell'=true:=by
 intro u hu
 obtain⟨b,_,hb⟩:=List.mem_flatMap.1 hu
 simp[POp.vals] at hb
 rcases hb with rfl|rfl|rfl|rfl<;>rfl
def zbz:List UInt8:=[99,111,112,121]
def zcg:List UInt8:=[100,97,116,97]
theorem ze3:zbz=[99,111,112,121]:=rfl
theorem ze2:zcg=[100,97,116,97]:=rfl
def opC(o:POp):Nat:=
 if o.kind=zbz then (if o.data≠[] then 3 else if (0≤o.a∧o.a≤4000)∧(1≤o.n∧o.n≤4000) then 0 else 2)
 else if o.kind=zcg then (if o.a≠0∨o.n≠0 then 3 else if 1≤o.data.length∧o.data.length≤4000 then 0 else 2)
 else 4
theorem yew{o:POp}(h1:o.kind=zbz)(h2:o.data≠[]):opC o=3:=by unfold opC;rw[if_pos h1,if_pos h2]
theorem yex{o:POp}(h1:o.kind=zbz)(h2:o.data=[])(h3:¬((0≤o.a∧o.a≤4000)∧(1≤o.n∧o.n≤4000))):opC o=2:=by unfold opC;rw[if_pos h1,if_neg (by simp[h2]),if_neg h3]
theorem zxn{o:POp}(h1:o.kind=zbz)(h2:o.data=[])(h3:(0≤o.a∧o.a≤4000)∧(1≤o.n∧o.n≤4000)):opC o=0:=by unfold opC;rw[if_pos h1,if_neg (by simp[h2]),if_pos h3]
theorem yeu{o:POp}(h0:o.kind≠zbz)(h1:o.kind=zcg)(h2:o.a≠0∨o.n≠0):opC o=3:=by unfold opC;rw[if_neg h0,if_pos h1,if_pos h2]
theorem yev{o:POp}(h0:o.kind≠zbz)(h1:o.kind=zcg)(h2:o.a=0∧o.n=0)(h3:¬(1≤o.data.length∧o.data.length≤4000)):opC o=2:=by unfold opC;rw[if_neg h0,if_pos h1,if_neg (by omega),if_neg h3]
theorem zxl{o:POp}(h0:o.kind≠zbz)(h1:o.kind=zcg)(h2:o.a=0∧o.n=0)(h3:1≤o.data.length∧o.data.length≤4000):opC o=0:=by unfold opC;rw[if_neg h0,if_pos h1,if_neg (by omega),if_pos h3]
theorem opK{o:POp}(h0:o.kind≠zbz)(h1:o.kind≠zcg):opC o=4:=by unfold opC;rw[if_neg h0,if_neg h1]
def zwb:List POp→Nat→Nat×Int
 | [],_=>(0,-1)
 | o::l,i=>if opC o=0 then zwb l (i+1) else (opC o,i)
def zb4(l:List POp):Nat×Int:=zwb l 0
theorem ylj{l:List POp}{k:Nat}(h:k<l.length)(hb:opC l[k]≠0):zwb (l.drop k) k=(opC l[k],(k:Int)):=by
 rw[List.drop_eq_getElem_cons h,zwb,if_neg hb]
theorem yhj{l:List POp}{k:Nat}(h:k<l.length)(hb:opC l[k]=0):zwb (l.drop k) k=zwb (l.drop (k+1)) (k+1):=by
 rw[List.drop_eq_getElem_cons h,zwb,if_pos hb]
theorem yli{l:List POp}{k:Nat}(h:l.length≤k):zwb (l.drop k) k=(0,-1):=by rw[List.drop_eq_nil_of_le h,zwb]
theorem yhi:∀(l:List POp)(i:Nat),(zwb l i).1=0↔∀o∈l,opC o=0
 | [],i=>by simp[zwb]
 | o::l,i=>by
  rw[zwb]
  split
  ·rename_i h;rw[yhi l (i+1)];simp[h]
  ·rename_i h;simp[h]
theorem zgi(l:List POp):(zb4 l).1=0↔∀o∈l,opC o=0:=yhi l 0
theorem zqq{o:POp}(h:opC o=0)(hk:o.kind=zbz):o.data=[]∧0≤o.a∧o.a≤4000∧1≤o.n∧o.n≤4000:=by
 unfold opC at h
 rw[if_pos hk] at h
 split at h
 ·simp at h
 ·rename_i hd
  split at h
  ·rename_i hh;exact⟨by simpa using hd,hh.1.1,hh.1.2,hh.2.1,hh.2.2⟩
  ·simp at h
theorem kne:zcg≠zbz:=by decide
theorem zqp{o:POp}(h:opC o=0)(hk:o.kind=zcg):o.a=0∧o.n=0∧1≤o.data.length∧o.data.length≤4000:=by
 unfold opC at h
 rw[if_neg (by rw[hk];exact kne),if_pos hk] at h
 split at h
 ·simp at h
 ·rename_i hd
  split at h
  ·rename_i hh;exact⟨by omega,by omega,hh.1,hh.2⟩
  ·simp at h
theorem zlm{o:POp}(h:opC o=0):o.kind=zbz∨o.kind=zcg:=by
 unfold opC at h
 split at h
 ·exact .inl (by assumption)
 ·split at h
  ·exact .inr (by assumption)
  ·simp at h
def zb7(l:List POp):Nat:=(l.map fun o=>o.data.length).sum
theorem zgh:zb7 []=0:=rfl
theorem zaw(a b:List POp):zb7 (a++b)=zb7 a+zb7 b:=by simp[zb7]
theorem zbr(o:POp):zb7 [o]=o.data.length:=by simp[zb7]
theorem ybm(o:POp)(l:List POp):zb7 (o::l)=o.data.length+zb7 l:=by simp[zb7]
def za6(old:List UInt8)(size:Nat)(o:POp):Nat×List UInt8:=
 if o.kind=zcg then (0,o.data)
 else if (zc8 size old.length:Int)<o.a+o.n then (6,[])
 else (0,(old.drop (o.a.toNat * size)).take (o.n.toNat * size))
def zn1(old:List UInt8)(size:Nat):List POp→Nat→List UInt8→(Nat×Int)×List UInt8
 | [],_,out=>((0,-1),out)
 | o::l,i,out=>if (za6 old size o).1≠0 then (((za6 old size o).1,i),[])
   else if 4000<out.length+(za6 old size o).2.length then ((8,i),[]) else zn1 old size l (i+1) (out++(za6 old size o).2)
def zgn(old:List UInt8)(size:Int)(l:List POp):(Nat×Int)×List UInt8:=
 if (1≤size∧size≤64)∧old.length≤4000 then (if (zb4 l).1=0 then zn1 old size.toNat l 0 [] else (zb4 l,[])) else ((2,-1),[])
attribute [irreducible] za3 zbz zcg opC zwb zb4 zb7 za6 zn1 zgn
end Go.Proofs.YtakhkcaihhpehaaGreatDoor
