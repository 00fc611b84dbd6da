/- Texts of one proof, one behind the other: RefAs. -/
import Derived.Test.YtakhkcaihhpehaaGreatDoorB34
import Derived.Test.YtakhkcaihhpehaaGreatDoorB16
import Derived.IntWalk
namespace Go.Proofs.YtakhkcaihhpehaaGreatDoor
open Go.RowKit
open Lib (hid)
set_option linter.unusedVariables false
set_option maxRecDepth 100000
set_option maxHeartbeats 51200000
def PM.ok32(x:PM):Prop:=0≤x.S∧x.S≤4294967295
def zkx:List PM→List UInt8→Int→Int
 | [],_,_=>-1
 | x::l,n,k=>if x.n=n then k else zkx l n (k+1)
theorem ygk{l:List PM}{n:List UInt8}{k:Nat}{j:Int}(h:l.length≤k):zkx (l.drop k) n j=-1:=by rw[List.drop_of_length_le h];rfl
theorem ygj{l:List PM}{n:List UInt8}{k:Nat}{j:Int}(h:k<l.length)(e:(l[k]'h).n=n):zkx (l.drop k) n j=j:=by
 rw[List.drop_eq_getElem_cons h,zkx,if_pos e]
theorem ykv{l:List PM}{n:List UInt8}{k:Nat}{j:Int}(h:k<l.length)(e:(l[k]'h).n≠n):zkx (l.drop k) n j=zkx (l.drop (k+1)) n (j+1):=by
 rw[List.drop_eq_getElem_cons h,zkx,if_neg e]
theorem zya(l:List PM)(v:Value)(n:List UInt8)(w:World)(hl:SliceIs w v 3 (zc2 l)):
  Calls Tryz.prog 52 #[v,.string (bs n)] w fun e w'=>e=.returned (.int .i64 (zkx l n 0))∧w'=w:=by
 obtain⟨s,m,c,rfl,hn,h1,h2,hg⟩:=hl.get
 rw[zks] at hn
 obtain rfl:m=l.length:=by omega
 unfold maxLen at h2
 have HSL:=hid hl
 clear hl hg
 go_enter Tryz.func52,Tryz.ntmps52
 go_wp2_with fail
 go_loopw [5] (fun i wr=>∃k:Nat,i=.int .i64 k∧k≤l.length∧zkx l n 0=zkx (l.drop k) n k∧wr=w) (fun i _=>l.length - (intOf i).toNat)
 case atStart=>exact⟨0,rfl,by omega,rfl,rfl⟩
 case round=>
  obtain⟨k,rfl,hk,hr,rfl⟩:=hrel
  have HR:=hid hr
  clear hr
  by_cases hlt:k<l.length
  ·have hltI:(k:Int)<l.length:=by omega
   obtain⟨s0',n0',c0',e1,_,_,_,g1⟩:=(HSL.out).get
   cases e1
   obtain⟨g2,_,_⟩:=zcr l k hlt
   obtain⟨ad,rfl,d0⟩:=g1 _ _ g2
   clear g1 g2
   have YES:=hid (fun e=>HR.out.trans (ygj (j:=k) hlt e))
   have NO:=hid (fun e=>HR.out.trans (ykv (j:=k) hlt e))
   have KK:=hid (show k+1≤l.length from hlt)
   have x1:(0:Int)≤k:=by omega
   have x2:(k:Int).toNat=k:=by omega
   generalize l[k]'hlt=x at d0 YES NO
   by_cases hx:x.n=n
   ·have hb:((bs x.n).toList==(bs n).toList)=true:=by rw[za4,za4];simpa using hx
    have Y:=hid (YES.out hx)
    clear YES NO hx
    go_wp2_with fail
    go_ret
    exact⟨by rw[Y.out];rfl,rfl⟩
   ·have hb:((bs x.n).toList==(bs n).toList)=false:=by rw[za4,za4];simpa using hx
    have Y:=hid (NO.out hx)
    clear YES NO hx
    go_wp2_with fail
    go_roundw
    case rel=>exact⟨k+1,by go_num,KK.out,by rw[Y.out];rfl,by trivial⟩
    case measure=>simp[intOf];omega
  ·have hltI:¬(k:Int)<l.length:=by omega
   have Y:=hid (HR.out.trans (ygk (n:=n) (j:=k) (show l.length≤k by omega)))
   clear HR
   go_wp2_with fail
   go_ret
   exact⟨by rw[Y.out];rfl,rfl⟩
end Go.Proofs.YtakhkcaihhpehaaGreatDoor
