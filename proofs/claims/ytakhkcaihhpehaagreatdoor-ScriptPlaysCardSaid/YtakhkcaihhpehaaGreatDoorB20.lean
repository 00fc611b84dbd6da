/- Texts of one proof, one behind the other: DeltaSame, DeltaBack, FrameFlip. -/
import Derived.Test.YtakhkcaihhpehaaGreatDoorB13
import Derived.Test.YtakhkcaihhpehaaGreatDoorB06
namespace Go.Proofs.YtakhkcaihhpehaaGreatDoor
open Go.RowKit
open Lib (hid)
set_option linter.unusedVariables false
set_option maxRecDepth 100000
set_option maxHeartbeats 51200000
theorem ydj(o:POp)(more:List UInt8)(h:opC o=0):zmi (zhl o++more)=(o,more,0):=by
 rcases zlm h with hk|hk
 ·obtain⟨a0,a1,a2,a3,a4⟩:=zqq h hk
  rw[zmy hk,List.append_assoc,List.append_assoc]
  obtain⟨p1,p2,p3⟩:=zf9 0 (num o.a.toNat++(num o.n.toNat++more)) (by omega)
  obtain⟨q1,q2,q3⟩:=zf9 o.a.toNat (num o.n.toNat++more) (by omega)
  obtain⟨r1,r2,r3⟩:=zf9 o.n.toNat more (by omega)
  rw[zjo p3 p1 p2 q2 q3,q1,r1,r2,r3]
  obtain⟨K,a,n,D⟩:=o
  simp only[] at hk a0 a1 a2 a3 a4
  subst hk a0
  have e1:((a.toNat:Nat):Int)=a:=by omega
  have e2:((n.toNat:Nat):Int)=n:=by omega
  simp only[e1,e2]
 ·obtain⟨a0,a1,a2,a3⟩:=zqp h hk
  rw[zmx (by rw[hk];exact kne),List.append_assoc]
  obtain⟨p1,p2,p3⟩:=zf9 1 ((num o.data.length++o.data)++more) (by omega)
  obtain⟨q1,q2,q3⟩:=zrv o.data more (by omega)
  rw[zjn p3 p1 p2,(zc7 _).1,(zc7 _).2.1,(zc7 _).2.2,q1,q2,q3]
  obtain⟨K,a,n,D⟩:=o
  simp only[] at hk a0 a1
  subst hk a0 a1
  rfl
theorem zw5:∀(l:List POp)(out:List POp)(more:List UInt8),(∀o∈l,opC o=0)→roL l.length (zmu l++more) 0 out=(out++l,more,0)
 | [],out,more,_=>by rw[zqo];simp[yc7]
 | o::l,out,more,h=>by
  rw[zsn,List.append_assoc,zw6 (by simp),ydj o _ (h o (by simp))]
  simp only[List.length_cons,Nat.add_sub_cancel]
  rw[zw5 l _ more (fun x hx=>h x (by simp[hx]))]
  simp
theorem zzp(l:List POp)(h:(zb4 l).1=0)(hl:l.length≤1000000)(h2:¬20000<(zhm l).length):zhh (zhm l)=(l,0):=by
 have h0:ro0 (zhm l)=(l,[],0):=by
  obtain⟨p1,p2,p3⟩:=zf9 l.length (zmu l) (by omega)
  rw[zln,yl8 p1 p2 p3]
  have:=zw5 l [] [] ((zgi l).1 h)
  simpa using this
 exact zw9 h2 h0 ze0 h
theorem zvc{l:List POp}(h:l.length≤200)(hc:zb7 l≤200):¬20000<(zhm l).length∧(zmu l).length≤100000000:=by
 have:=zxh l
 have:=zar l.length
 rw[zln]
 simp only[List.length_append]
 omega
theorem yp6(b x:UInt8)(hx:x.toNat≠0):b ^^^ x≠b:=by
 intro h
 have h2:=congrArg (fun z=>b ^^^ z) h
 simp only[←UInt8.xor_assoc,UInt8.xor_self,UInt8.zero_xor] at h2
 rw[h2] at hx
 exact hx rfl
theorem flipB(B C:List UInt8)(p:Nat)(x:UInt8)(hC:C=zkh (za5 B))(hp:p<(B++C).length)(hx:x.toNat≠0):
  zkh (za5 (((B++C).set p ((B++C)[p] ^^^ x)).take B.length))≠((B++C).set p ((B++C)[p] ^^^ x)).drop B.length:=by
 by_cases h:p<B.length
 ·rw[List.getElem_append_left h,List.set_append_left _ _ h]
  obtain⟨h1,h2⟩:=ya8 B p x h
  have hn:=ztt (B.take p) (B.drop (p+1)) B[p] x hx
  rw[←h1,←h2] at hn
  have hl:(B.set p (B[p] ^^^ x)).length=B.length:=by simp
  rw[show(B.set p (B[p] ^^^ x)++C).take B.length=B.set p (B[p] ^^^ x) by rw[←hl,List.take_left'];rfl]
  rw[show(B.set p (B[p] ^^^ x)++C).drop B.length=C by rw[←hl,List.drop_left'];rfl]
  rw[hC]
  exact fun e=>hn (yjy (zdv _) (zdv _) e)
 ·have hq:p - B.length<C.length:=by rw[List.length_append] at hp;omega
  rw[List.getElem_append_right (by omega),List.set_append_right _ _ (by omega)]
  rw[List.take_left',List.drop_left']
  ·rw[←hC]
   intro e
   have e2:C[p - B.length]?=(C.set (p - B.length) (C[p - B.length] ^^^ x))[p - B.length]?:=congrArg (fun l=>l[p - B.length]?) e
   rw[List.getElem?_set_self hq,List.getElem?_eq_getElem hq] at e2
   exact yp6 _ x hx (Option.some.inj e2).symm
  ·rfl
  ·rfl
theorem yk7(f:PFr)(p:Nat)(x:UInt8)(hp:p<(frT f).length)(hx:x.toNat≠0):zfe ((frT f).set p ((frT f)[p] ^^^ x))=(zfr,10):=by
 have hl:(frT f).length=(frB f).length+4:=by rw[ziw,List.length_append,zia]
 refine zyl (by rw[List.length_set];omega) ?_
 rw[List.length_set,show(frT f).length - 4=(frB f).length by omega]
 have:=flipB (frB f) (zkh (za5 (frB f))) p x rfl (by rw[←ziw];exact hp) hx
 simpa only[←ziw] using this
end Go.Proofs.YtakhkcaihhpehaaGreatDoor
