/- Texts of one proof, one behind the other: Weak, RefWeak. -/
import Derived.Test.YtakhkcaihhpehaaGreatDoorRows
import Derived.Test.YtakhkcaihhpehaaGreatDoorB01
namespace Go.Proofs.YtakhkcaihhpehaaGreatDoor
open Go.RowKit
open Lib (hid)
set_option linter.unusedVariables false
set_option maxRecDepth 100000
set_option maxHeartbeats 51200000
theorem yoa(n:Int)(w:World)(_h1:-4611686018427387904≤n)(_h2:n≤4611686018427387904):
  Calls Tryz.prog 208 #[.int .i64 n] w fun e w'=>e=.returned (.int .i64 (n % 65536))∧w=w':=by
 have hb:=Int.tmod_lt_of_pos n (show(0:Int)<65536 by decide)
 have hc:-65536<n.tmod 65536:=Int.lt_tmod_of_pos n (by decide)
 have hm:(n.tmod 65536+65536) % 65536=n % 65536:=by
  rw[Int.tmod_eq_emod];split<;>omega
 have HM:=hid hm
 clear hm
 go_enter Tryz.func208,Tryz.ntmps208
 go_wp2
 go_ret
 exact⟨zc0 HM.out,rfl⟩
theorem zl2(s:ByteArray)(w:World)(hs:s.size≤100000):
  Calls Tryz.prog 181 #[.string s] w fun e w'=>e=.returned (.int .i64 (ws s.data.toList))∧w=w':=by
 go_enter Tryz.func181,Tryz.ntmps181
 go_wp2
 go_loop [3,4,8] (fun a b i=>∃k:Nat,k≤s.size∧i=.int .i64 k∧a=.int .i64 (wa (s.data.toList.take k))∧b=.int .i64 ((wb (s.data.toList.take k) % 65536:Nat):Int))
  (fun _ _ i=>s.size - (intOf i).toNat)
 case atStart=>exact⟨0,Nat.zero_le _,rfl,by simp[wa],by simp[wb]⟩
 case round=>
  obtain⟨k,hk,rfl,rfl,rfl⟩:=hrel
  have hl:=wa_le (s.data.toList.take k)
  have hl2:(s.data.toList.take k).length≤k:=List.length_take_le _ _
  by_cases hlt:k<s.size
  ·have hts:=zje s k hlt
   have ha:wa (s.data.toList.take (k+1))=wa (s.data.toList.take k)+s[k].toNat:=by rw[hts,zl3];simp[wa]
   have hb:wb (s.data.toList.take (k+1))=wb (s.data.toList.take k)+wa (s.data.toList.take k)+s[k].toNat:=by rw[hts,zrt];simp[wb]
   have HA:=hid ha
   have HB:=hid hb
   clear ha hb hts
   have hc:s[k].toNat<256:=s[k].toNat_lt
   go_wp2
   go_round
   case rel=>exact⟨k+1,by omega,by go_num,by rw[HA.out];go_num,by rw[HB.out];go_num⟩
   case measure=>simp[intOf];omega
  ·have hks:k=s.size:=by omega
   subst hks
   go_wp2_with (go_at_call 208;refine(yoa _ _ (by omega) (by omega)).mono ?_;rintro e w'⟨rfl,rfl⟩)
   go_ret
   exact⟨zc0 (by rw[List.take_of_length_le (by simp)];simp[ws]),rfl⟩
theorem yas(n:Int)(w:World):
  Calls Tryz.prog 86 #[.int .i64 n] w fun e w'=>e=.returned (.bool (zi1 n))∧w=w':=by
 go_enter Tryz.func86,Tryz.ntmps86
 go_wp2
 all_goals
  go_ret
  refine⟨zjm ?_,rfl⟩
  simp only[zi1]
  first|(simp[*];done)|(simp[*];omega)
def wc(l:List UInt8)(k:Nat):Nat:=wb (l.take k)+(l.length - k) * wa (l.take k)
theorem ynd(l:List UInt8):wc l 0=0:=by simp[wc,wb,wa]
theorem yqc(l:List UInt8):wc l l.length=wb l:=by simp[wc]
theorem yne(l:List UInt8)(k:Nat)(h:k<l.length):wc l (k+1)=wc l k+l[k].toNat * (l.length - k):=by
 unfold wc
 rw[List.take_succ_eq_append_getElem h,zrt,zl3]
 obtain⟨m,hm⟩:∃m,l.length - k=m+1:=⟨l.length - k - 1,by omega⟩
 have hm2:l.length - (k+1)=m:=by omega
 rw[hm,hm2]
 simp only[wa,wb,List.length_cons,List.length_nil,Nat.add_mul,Nat.mul_add]
 have:=Nat.mul_comm m l[k].toNat
 omega
attribute [irreducible] wc
theorem zod(s:ByteArray)(w:World)(hs:s.size≤100000):
  Calls Tryz.prog 62 #[.string s] w fun e w'=>e=.returned (.int .i64 (ws s.data.toList))∧w=w':=by
 have hsz:s.data.toList.length=s.size:=by simp
 go_enter Tryz.func62,Tryz.ntmps62
 go_wp2
 go_loop [3,4,5] (fun a b i=>∃k:Nat,k≤s.size∧i=.int .i64 k∧a=.int .i64 ((wa (s.data.toList.take k) % 65536:Nat):Int)∧b=.int .i64 ((wc s.data.toList k % 65536:Nat):Int))
  (fun _ _ i=>s.size - (intOf i).toNat)
 case atStart=>exact⟨0,Nat.zero_le _,rfl,by simp[wa],by simp[ynd]⟩
 case round=>
  obtain⟨k,hk,rfl,rfl,rfl⟩:=hrel
  by_cases hlt:k<s.size
  ·have hts:=zje s k hlt
   have ha:wa (s.data.toList.take (k+1))=wa (s.data.toList.take k)+s[k].toNat:=by rw[hts,zl3];simp[wa]
   have hb:wc s.data.toList (k+1)=wc s.data.toList k+s[k].toNat * (s.size - k):=by
    have:=yne s.data.toList k (by omega)
    simp only[hsz] at this
    exact this
   have hm1:0≤(s[k].toNat:Int) * ((s.size:Int) - k):=Int.mul_nonneg (by omega) (by omega)
   have hc:s[k].toNat<256:=s[k].toNat_lt
   have hm2:(s[k].toNat:Int) * ((s.size:Int) - k)≤255 * 100000:=Int.mul_le_mul (by omega) (by omega) (by omega) (by omega)
   have hm3:((s[k].toNat * (s.size - k):Nat):Int)=(s[k].toNat:Int) * ((s.size:Int) - k):=by
    rw[Int.natCast_mul,Int.ofNat_sub hk]
   have HA:=hid ha
   have HB:=hid hb
   have HM:=hid hm3
   clear ha hb hts hm3 hsz
   go_wp2
   go_round
   case rel=>exact⟨k+1,by omega,by go_num,by rw[HA.out];go_num,by
    rw[HB.out]
    have:=HM.out
    generalize s[k].toNat * (s.size - k)=x at *
    generalize (s[k].toNat:Int) * ((s.size:Int) - k)=y at *
    go_num⟩
   case measure=>simp[intOf];omega
  ·have hks:k=s.size:=by omega
   subst hks
   have he:wc s.data.toList s.size=wb s.data.toList:=by rw[←hsz,yqc]
   have HE:=hid he
   clear he hsz
   go_wp2
   go_ret
   exact⟨zc0 (by rw[HE.out,List.take_of_length_le (by simp)];simp[ws]),rfl⟩
end Go.Proofs.YtakhkcaihhpehaaGreatDoor
