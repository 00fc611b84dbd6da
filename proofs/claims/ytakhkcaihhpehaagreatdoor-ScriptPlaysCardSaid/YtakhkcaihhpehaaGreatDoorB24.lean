/- Texts of one proof, one behind the other: XferLaw3, XferListed, XferFin, ScrPlain, ScrLaws, ScrDoc, GateRdP, RefGate. -/
import Derived.Test.YtakhkcaihhpehaaGreatDoorB21
import Derived.Test.YtakhkcaihhpehaaGreatDoorB22
import Derived.Test.YtakhkcaihhpehaaGreatDoorB07
import Derived.Test.YtakhkcaihhpehaaGreatDoorB19
import Derived.Test.YtakhkcaihhpehaaGreatDoorB03
import Derived.Test.YtakhkcaihhpehaaGreatDoorB14
import Derived.Test.YtakhkcaihhpehaaGreatDoorB23
import Derived.Test.YtakhkcaihhpehaaGreatDoorB09
import Derived.Test.YtakhkcaihhpehaaGreatDoorB06
namespace Go.Proofs.YtakhkcaihhpehaaGreatDoor
open Go.RowKit
open Lib (hid)
set_option linter.unusedVariables false
set_option maxRecDepth 100000
set_option maxHeartbeats 51200000
section
variable{t0:List PF}{x:XS}
theorem zqt(h:XInv t0 x){l:List (List UInt8×Bool)}(hn:∀p∈l,XPk x p):XInv t0 {x with net:=l}:=
 ⟨h.fr,h.tt,h.near,hn,h.ep,h.g1,h.g2,h.sm,h.s2,h.age,h.flow,h.ln,h.l0,h.ask,h.op,h.done,h.fl⟩
theorem yp8(fr:List PF)(e q:Nat)(u:XW):(xan fr e q u).e=e:=by cases u<;>rfl
theorem yp7(fr:List PF)(e q:Nat)(u:XW):(xan fr e q u).q=q:=by cases u<;>rfl
theorem yp5(e q:Nat)(u:XW):(xrq e q u).e=e:=by cases u<;>rfl
theorem yh5(e q:Nat)(u:XW):(xrq e q u).q=q:=by cases u<;>rfl
theorem ym6(e q:Nat)(u:XW):(xrq e q u).k≠0:=by cases u<;>simp[xrq]
theorem ypu(hf:Small x.fr){f:PFr}{n o d:List UInt8}(hfd:f.d=XS.two n (sgT o))(h1:(⟨n,d⟩:PF)∈x.fr)(h2:o.length≤200):x.ansG f=x.put ⟨111,f.e,f.q,XS.two n (dtL (opO o d))⟩:=by
 have hn:n.length≤12:=hf.name h1
 have hd:d.length≤200:=hf.len _ h1
 obtain⟨p1,p2,p3,q1,q2,q3⟩:=zle (a:=n) (b:=sgT o) (by omega) (by have:=zus h2;omega)
 have hg:zaq x.fr n=some d:=zej hf.wf.sorted h1
 have hs:=(zp2 h2).1
 have hdt:=(zxj h2 hd).1
 unfold XS.ansG
 rw[hfd,p1,p2,p3,q1,q2,q3,ze0,hs,hg]
 simp only[ne_eq,not_true_eq_false,if_false]
 have e1:zc1 (zeu (za8 o.length) o) (za8 o.length) d=opO o d:=rfl
 rw[e1,hdt]
 rfl
theorem zuf(hf:Small x.fr){u:XW}{e q:Nat}(hu:u.ok x.fr):x.answer (xrq e q u)=x.put (xan x.fr e q u):=by
 cases u with
 | all=>rfl
 | one n o d=>
  obtain⟨h1,h2⟩:=hu
  have hk:¬(xrq e q (.one n o d)).k=108:=by show ¬(103:UInt8)=108;decide
  unfold XS.answer
  rw[if_neg hk]
  exact ypu hf rfl h1 h2
theorem zwl{f:PFr}(h:x.dn=true∨x.ask.k=0∨f.q≠x.ask.q∨x.ge=0∨f.e≠x.ge):x.answered f=x:=by unfold XS.answered;rw[if_pos h]
theorem zn2(h:XInv t0 x){u:XW}{e q:Nat}(hr:e=x.ge→q<x.sq∧(q+1=x.sq→x.dn=false→u=x.cur)):
  ((x.dn=true∨x.ask.k=0∨(xan x.fr e q u).q≠x.ask.q∨x.ge=0∨(xan x.fr e q u).e≠x.ge)∧x.answered (xan x.fr e q u)=x)∨
  (x.dn=false∧x.ask.k≠0∧(xan x.fr e q u).q=x.ask.q∧x.ge≠0∧(xan x.fr e q u).e=x.ge∧e=x.ge∧q=x.sq - 1∧u=x.cur∧x.answered (xan x.fr e q u)=x.took.next):=by
 by_cases hc:x.dn=true∨x.ask.k=0∨(xan x.fr e q u).q≠x.ask.q∨x.ge=0∨(xan x.fr e q u).e≠x.ge
 ·exact .inl ⟨hc,zwl hc⟩
 ·have hc':=hc
  simp only[not_or] at hc
  obtain⟨h1,h2,h3,h4,h5⟩:=hc
  have hd:x.dn=false:=by simpa using h1
  have h3:(xan x.fr e q u).q=x.ask.q:=Classical.byContradiction h3
  have h5:(xan x.fr e q u).e=x.ge:=Classical.byContradiction h5
  obtain⟨a1,a2⟩:=h.ask hd
  have e1:e=x.ge:=by rw[yp8] at h5;omega
  have q1:q=x.sq - 1:=by
   rw[a2,yp7,yh5] at h3
   omega
  have hu:=(hr e1).2 (by omega) hd
  refine .inr ⟨hd,h2,h3,h4,h5,e1,q1,hu,?_⟩
  unfold XS.answered
  rw[if_neg hc',e1,q1,hu]
  rfl
theorem zht(h:XInv t0 x)(k:Nat):XInv t0 {x with net:=x.net.eraseIdx k}:=zqt h (fun p hp=>h.net p (List.mem_of_mem_eraseIdx hp))
theorem zp9(e q:Nat)(u:XW):(xrq e q u).k=108∨(xrq e q u).k=103:=by cases u<;>simp[xrq]
theorem zi8(fr:List PF)(e q:Nat)(u:XW):¬((xan fr e q u).k=108∨(xan fr e q u).k=103):=by cases u<;>simp[xan]<;>decide
theorem yhe{k:Nat}(hk:k<x.net.length)(hb:(zfe (x.net[k]'hk).1).2≠0):x.come k={x with net:=x.net.eraseIdx k}:=by
 unfold XS.come
 rw[List.getElem?_eq_getElem hk]
 simp only[]
 rw[if_pos hb]
theorem yo8{k:Nat}(hk:k<x.net.length){f:PFr}(hb:zfe (x.net[k]'hk).1=(f,0))(hf:f.k=108∨f.k=103):x.come k=XS.answer f {x with net:=x.net.eraseIdx k}:=by
 unfold XS.come
 rw[List.getElem?_eq_getElem hk]
 simp only[]
 rw[hb]
 simp only[ne_eq,not_true_eq_false,if_false]
 rw[if_pos hf]
theorem zv8{k:Nat}(hk:k<x.net.length){f:PFr}(hb:zfe (x.net[k]'hk).1=(f,0))(hf:¬(f.k=108∨f.k=103)):x.come k=XS.answered f {x with net:=x.net.eraseIdx k}:=by
 unfold XS.come
 rw[List.getElem?_eq_getElem hk]
 simp only[]
 rw[hb]
 simp only[ne_eq,not_true_eq_false,if_false]
 rw[if_neg hf]
inductive Came (t0:List PF) (x:XS) (k:Nat) (hk:k<x.net.length):Prop
 | bad (hb:(zfe (x.net[k]'hk).1).2≠0) (he:x.come k={x with net:=x.net.eraseIdx k})
 | req (u:XW) (e q:Nat) (hu:u.ok x.fr) (h1:e≤x.ge) (h2:q<65536) (hr:e=x.ge→q<x.sq∧(q+1=x.sq→x.dn=false→u=x.cur)) (hb:zfe (x.net[k]'hk).1=(xrq e q u,0)) (he:x.come k=XS.answer (xrq e q u) {x with net:=x.net.eraseIdx k})
   (hp:x.come k={x with net:=x.net.eraseIdx k++[(frT (xan x.fr e q u),false)]})
 | old (u:XW) (e q:Nat) (hu:u.ok x.fr) (h1:e≤x.ge) (h2:q<65536) (hr:e=x.ge→q<x.sq∧(q+1=x.sq→x.dn=false→u=x.cur)) (hb:zfe (x.net[k]'hk).1=(xan x.fr e q u,0)) (hc:x.dn=true∨x.ask.k=0∨(xan x.fr e q u).q≠x.ask.q∨x.ge=0∨(xan x.fr e q u).e≠x.ge) (he:x.come k={x with net:=x.net.eraseIdx k})
 | now (hd:x.dn=false) (ha:x.ask.k≠0) (hq:(xan x.fr x.ge (x.sq - 1) x.cur).q=x.ask.q) (hg:x.ge≠0) (he1:(xan x.fr x.ge (x.sq - 1) x.cur).e=x.ge) (hb:zfe (x.net[k]'hk).1=(xan x.fr x.ge (x.sq - 1) x.cur,0)) (he:x.come k=XS.next (XS.took {x with net:=x.net.eraseIdx k}))
theorem came(h:XInv t0 x)(k:Nat)(hk:k<x.net.length):Came t0 x k hk:=by
 have hy:=zht h k
 obtain⟨u,e,q,b,hu,h1,h2,hr,hp⟩:=h.net _ (List.getElem_mem hk)
 have hge:=h.g2
 rcases hp with hp|⟨hp1,j,hp2⟩
 ·have hdec:zfe (x.net[k]'hk).1=(xfm x.fr b e q u,0):=by
   rw[hp]
   exact zi3 _ (ztg h.fr hu (by omega) h2)
  cases b with
  | false=>
   have hdec:zfe (x.net[k]'hk).1=(xrq e q u,0):=hdec
   have e1:=yo8 hk hdec (zp9 e q u)
   refine .req u e q hu h1 h2 hr hdec e1 ?_
   rw[e1]
   exact(zuf (x:={x with net:=x.net.eraseIdx k}) h.fr hu).trans (zu5 (x:={x with net:=x.net.eraseIdx k}) (b:=true) h.fr hu (by omega) h2)
  | true=>
   have hdec:zfe (x.net[k]'hk).1=(xan x.fr e q u,0):=hdec
   have e1:=zv8 hk hdec (zi8 _ e q u)
   rcases zn2 hy (u:=u) (e:=e) (q:=q) hr with⟨hc,e2⟩|⟨a1,a2,a3,a4,a5,a6,a7,a8,e2⟩
   ·exact .old u e q hu h1 h2 hr hdec hc (e1.trans e2)
   ·have e6:e=x.ge:=a6
    have e7:q=x.sq - 1:=a7
    have e8:u=x.cur:=a8
    subst e6 e7 e8
    exact .now a1 a2 a3 a4 a5 hdec (e1.trans e2)
 ·have hb:(zfe (x.net[k]'hk).1).2≠0:=by
   rw[hp2,ygg]
   decide
  exact .bad hb (yhe hk hb)
theorem an_pk(h:XInv t0 x){u:XW}{e q:Nat}(hu:u.ok x.fr)(h1:e≤x.ge)(h2:q<65536)(hr:e=x.ge→q<x.sq∧(q+1=x.sq→x.dn=false→u=x.cur)):XPk x (frT (xan x.fr e q u),false):=
 ⟨u,e,q,true,hu,h1,h2,hr,.inl rfl⟩
theorem rq_pk(h:XInv t0 x){u:XW}{e q:Nat}(hu:u.ok x.fr)(h1:e≤x.ge)(h2:q<65536)(hr:e=x.ge→q<x.sq∧(q+1=x.sq→x.dn=false→u=x.cur)):XPk x (frT (xrq e q u),false):=
 ⟨u,e,q,false,hu,h1,h2,hr,.inl rfl⟩
structure Stepped(t0:List PF)(x y:XS):Prop where
 inv:XInv t0 y
 fr:y.fr=x.fr
 ge:y.ge≤x.ge+1
 net:y.net.length≤x.net.length+1
 dn:x.dn=true→y.dn=true∧y.tt=x.tt
theorem zrf(h:XInv t0 x)(k:Nat)(hk:k<x.net.length):XInv t0 (x.come k)∧(x.come k).fr=x.fr∧(x.come k).ge=x.ge∧(x.come k).net.length≤x.net.length∧(x.dn=true→(x.come k).dn=true∧(x.come k).tt=x.tt):=by
 have hy:=zht h k
 have hlen:(x.net.eraseIdx k).length=x.net.length - 1:=by rw[List.length_eraseIdx,if_pos hk]
 cases came h k hk with
 | bad hb he=>
  rw[he]
  exact⟨hy,rfl,rfl,by show(x.net.eraseIdx k).length≤_;omega,fun hd=>⟨hd,rfl⟩⟩
 | req u e q hu h1 h2 hr hb he hp=>
  rw[hp]
  refine⟨zqt h (fun p hp=>?_),rfl,rfl,by show(x.net.eraseIdx k++[_]).length≤_;rw[List.length_append,List.length_singleton];omega,fun hd=>⟨hd,rfl⟩⟩
  rcases List.mem_append.1 hp with hp|hp
  ·exact h.net p (List.mem_of_mem_eraseIdx hp)
  ·rw[List.mem_singleton.1 hp]
   exact an_pk h hu h1 h2 hr
 | old u e q hu h1 h2 hr' hb hc he=>
  rw[he]
  exact⟨hy,rfl,rfl,by show(x.net.eraseIdx k).length≤_;omega,fun hd=>⟨hd,rfl⟩⟩
 | now hd ha hq hg he1 hb he=>
  obtain⟨m1,m2,m3,m4,m5⟩:=zl7 hy hd
  obtain⟨n1,n2,n3,n4,n5,n6⟩:=zlo m1
  rw[he]
  refine⟨n1,n3.trans m5,n4.trans m4,?_,fun hd'=>by rw[hd] at hd';cases hd'⟩
  have e3:(XS.took {x with net:=x.net.eraseIdx k}).net.length=(x.net.eraseIdx k).length:=congrArg List.length m3
  omega
theorem zuo(h:XInv t0 x):x.dn=true∧x.tick=x∨x.dn=false∧(
  x.tick={x with age:=0,W:=1,L:=ym0 x.W,T:=ylp x.T,G:=0,net:=x.net++[(frT (xrq x.ge (x.sq - 1) x.cur),false)]}∨
  ((x.age+1:Nat):Int)<x.T∧x.tick={x with age:=x.age+1}):=by
 by_cases hd:x.dn=true
 ·exact .inl ⟨hd,by unfold XS.tick;rw[if_pos (.inl hd)]⟩
 ·have hd:x.dn=false:=by simpa using hd
  obtain⟨a1,a2⟩:=h.ask hd
  have hk:x.ask.k≠0:=by rw[a2];exact ym6 _ _ _
  have hs:=h.s2
  refine .inr ⟨hd,?_⟩
  unfold XS.tick
  rw[if_neg (by rw[hd];rintro(h|h);cases h;exact hk h)]
  by_cases hT:x.T≤((x.age+1:Nat):Int)
  ·rw[if_pos hT]
   refine .inl ?_
   refine(congrArg (fun f=>XS.put f (XS.bad {x with age:=0})) a2).trans ?_
   exact(zu5 (x:=XS.bad {x with age:=0}) (b:=false) (e:=x.ge) (q:=x.sq - 1) h.fr (zts h.fr h.tt h.ln) h.g2 (by omega))
  ·rw[if_neg hT]
   exact .inr ⟨by omega,rfl⟩
theorem zlf(h:XInv t0 x):XInv t0 x.tick∧x.tick.fr=x.fr∧x.tick.ge=x.ge∧x.tick.net.length≤x.net.length+1∧x.tick.dn=x.dn∧x.tick.tt=x.tt:=by
 rcases zuo h with⟨hd,e⟩|⟨hd,e|⟨hT,e⟩⟩
 ·rw[e]
  exact⟨h,rfl,rfl,by omega,rfl,rfl⟩
 ·have hs:=h.s2
  have hb:=yrs h.flow
  have hT2:=hb.2.2.2.2.1
  obtain⟨a1,a2⟩:=h.ask hd
  rw[e]
  refine⟨⟨h.fr,h.tt,h.near,fun p hp=>?_,h.ep,h.g1,h.g2,h.sm,h.s2,⟨by show 0≤64;omega,fun _=>by show((0:Nat):Int)<ylp x.T;omega⟩,hb,h.ln,h.l0,h.ask,h.op,h.done,h.fl⟩,rfl,rfl,by simp,rfl,rfl⟩
  rcases List.mem_append.1 hp with hp|hp
  ·exact h.net p hp
  ·rw[List.mem_singleton.1 hp]
   exact rq_pk h (zts h.fr h.tt h.ln) (Nat.le_refl _) (by omega) (fun _=>⟨by omega,fun _ _=>rfl⟩)
 ·have hT2:=h.flow.2.2.2.2.2.1
  rw[e]
  exact⟨⟨h.fr,h.tt,h.near,h.net,h.ep,h.g1,h.g2,h.sm,h.s2,⟨by show x.age+1≤64;omega,fun _=>hT⟩,h.flow,h.ln,h.l0,h.ask,h.op,h.done,h.fl⟩,rfl,rfl,by simp,rfl,rfl⟩
theorem zt2(hf:Small x.fr)(ht:Small x.tt)(hn:∀g∈x.tt,g∈t0∨∃f∈x.fr,f.line=g.line∧(t0=[]→f=g))(hp:∀p∈x.net,∃(u:XW)(e q:Nat)(b:Bool),u.ok x.fr∧e≤x.ge∧q<65536∧(p=(frT (xfm x.fr b e q u),false)∨p.2=true∧∃k,p.1=XS.flip (frT (xfm x.fr b e q u)) k))(hd:x.dn=false)(hg:x.ge<2147483648):
  XMid t0 {x with ge:=x.ge+1,ep:=x.ge+1,sq:=0,ask:=zfr,age:=0,W:=1,L:=32,T:=2,G:=0,ln:=[],kn:=false,fu:=[]}:=by
 refine⟨hf,ht,hn,fun p hp2=>?_,rfl,by show 1≤x.ge+1;omega,by show x.ge+1≤_;omega,hd,?_,by show 0≤64;omega,by show zgm 1 32 2 0;unfold zgm;omega,fun h=>(by cases h),fun _=>rfl,by show 0≤0;omega⟩
 ·obtain⟨u,e,q,b,h1,h2,h3,h4⟩:=hp p hp2
  exact⟨u,e,q,b,h1,by show e≤x.ge+1;omega,h3,fun he=>by have he:e=x.ge+1:=he;omega,h4⟩
 ·unfold XS.mu
  rw[if_pos rfl]
  show 0+(2 * x.fr.length+1)≤2 * x.fr.length+1
  omega
theorem yhq(h:XInv t0 x):Stepped t0 x x.begins:=by
 unfold XS.begins
 by_cases hd:x.dn=true
 ·rw[if_pos hd]
  exact⟨h,rfl,by omega,by omega,fun hd=>⟨hd,rfl⟩⟩
 ·rw[if_neg hd]
  by_cases hg:2147483648≤x.ge
  ·rw[if_pos hg]
   exact⟨h,rfl,by omega,by omega,fun hd=>⟨hd,rfl⟩⟩
  ·rw[if_neg hg]
   have M:=zt2 (t0:=t0) h.fr h.tt h.near (fun p hp=>by obtain⟨u,e,q,b,h1,h2,h3,_,h4⟩:=h.net p hp;exact⟨u,e,q,b,h1,h2,h3,h4⟩) (by simpa using hd) (by omega)
   obtain⟨n1,n2,n3,n4,n5,n6⟩:=zlo M
   exact⟨n1,n3,by rw[n4];exact Nat.le_refl _,n5,fun hd'=>absurd hd' hd⟩
theorem zry{fr t:List PF}(hf:Small fr)(ht:Small t):XInv t (XS.start fr t)∧(XS.start fr t).fr=fr∧(XS.start fr t).ge=1∧(XS.start fr t).net.length≤1:=by
 have M:=zt2 (t0:=t) (x:=⟨fr,t,0,[],0,0,zfr,0,1,32,2,0,[],false,[],false⟩) hf ht (fun g hg=>.inl hg) (fun p hp=>by cases hp) rfl (by show 0<2147483648;omega)
 obtain⟨n1,n2,n3,n4,n5,n6⟩:=zlo M
 unfold XS.start XS.begins
 rw[if_neg (by simp),if_neg (by simp)]
 exact⟨n1,n3,n4,n5⟩
theorem yh8(h:XInv t0 x)(q:Nat):Stepped t0 x (x.turn q):=by
 unfold XS.turn
 cases hn:x.net with
 | nil=>exact⟨h,rfl,Nat.le_succ _,Nat.le_succ _,fun hd=>⟨hd,rfl⟩⟩
 | cons p r=>
  simp only[]
  by_cases hp:p.2=true
  ·rw[if_pos hp]
   exact⟨h,rfl,by omega,by omega,fun hd=>⟨hd,rfl⟩⟩
  ·rw[if_neg hp]
   refine⟨zqt h (fun p' hp'=>?_),rfl,by show x.ge≤_;omega,by simp[hn],fun hd=>⟨hd,rfl⟩⟩
   rcases List.mem_cons.1 hp' with rfl|hp'
   ·obtain⟨u,e,q',b,h1,h2,h3,h4,h5⟩:=h.net p (by rw[hn];simp)
    refine⟨u,e,q',b,h1,h2,h3,h4,.inr ⟨rfl,q,?_⟩⟩
    rcases h5 with h5|⟨h5,_⟩
    ·rw[h5]
    ·exact absurd h5 hp
   ·exact h.net p' (by rw[hn];exact List.mem_cons_of_mem _ hp')
theorem yh1(h:XInv t0 x)(v:Int):Stepped t0 x (x.act v):=by
 unfold XS.act
 by_cases h0:v<0
 ·rw[if_pos h0];exact⟨h,rfl,by omega,by omega,fun hd=>⟨hd,rfl⟩⟩
 rw[if_neg h0]
 simp only[]
 by_cases h6:v.toNat % 8=6
 ·rw[if_pos h6]
  obtain⟨t1,t2,t3,t4,t5,t6⟩:=zlf h
  exact⟨t1,t2,by omega,t4,fun hd=>⟨t5.trans hd,t6⟩⟩
 rw[if_neg h6]
 by_cases h7:v.toNat % 8=7
 ·rw[if_pos h7];exact yhq h
 rw[if_neg h7]
 by_cases hn:x.net=[]
 ·rw[if_pos hn];exact⟨h,rfl,by omega,by omega,fun hd=>⟨hd,rfl⟩⟩
 rw[if_neg hn]
 have hpos:0<x.net.length:=List.length_pos_iff.2 hn
 have hm:v.toNat / 8 % x.net.length<x.net.length:=Nat.mod_lt _ hpos
 by_cases h3:v.toNat % 8<3
 ·rw[if_pos h3]
  obtain⟨t1,t2,t3,t4,t5⟩:=zrf h _ hm
  exact⟨t1,t2,by omega,by omega,t5⟩
 rw[if_neg h3]
 by_cases h3':v.toNat % 8=3
 ·rw[if_pos h3']
  exact⟨zht h _,rfl,by show x.ge≤_;omega,by show(x.net.eraseIdx _).length≤_;rw[List.length_eraseIdx];split<;>omega,fun hd=>⟨hd,rfl⟩⟩
 rw[if_neg h3']
 by_cases h4:v.toNat % 8=4
 ·rw[if_pos h4]
  by_cases h5:x.net.length<500
  ·rw[if_pos h5,List.getElem?_eq_getElem hm]
   refine⟨zqt h (fun p hp=>?_),rfl,by show x.ge≤_;omega,by simp,fun hd=>⟨hd,rfl⟩⟩
   rcases List.mem_append.1 hp with hp|hp
   ·exact h.net p hp
   ·have:p=x.net[v.toNat / 8 % x.net.length]:=by simpa using hp
    rw[this];exact h.net _ (List.getElem_mem hm)
  ·rw[if_neg h5];exact⟨h,rfl,by omega,by omega,fun hd=>⟨hd,rfl⟩⟩
 rw[if_neg h4]
 exact yh8 h _
def gan(x:XS):List UInt8×Bool:=(frT (xan x.fr x.ge (x.sq - 1) x.cur),false)
def grq(x:XS):List UInt8×Bool:=(frT (xrq x.ge (x.sq - 1) x.cur),false)
theorem yhc(n:Nat):∀{x:XS},XInv t0 x→n≤x.net.length→
  XInv t0 (XS.comes n x)∧(XS.comes n x).fr=x.fr∧(XS.comes n x).ge=x.ge∧(XS.comes n x).net.length≤x.net.length∧(x.dn=true→(XS.comes n x).dn=true∧(XS.comes n x).tt=x.tt)∧
  (x.dn=false→((XS.comes n x).dn=true∨(XS.comes n x).mu<x.mu)∨∃l,XS.comes n x={x with net:=l}∧(∀p∈x.net.drop n,p∈l)∧(∀p∈x.net.take n,p≠gan x)∧(∀p∈x.net.take n,p=grq x→gan x∈l)):=by
 induction n with
 | zero=>
  intro x h hn
  refine⟨h,rfl,rfl,Nat.le_refl _,fun hd=>⟨hd,rfl⟩,fun hd=>.inr ⟨x.net,rfl,fun p hp=>by simpa using hp,fun p hp=>by simp at hp,fun p hp=>by simp at hp⟩⟩
 | succ n ih=>
  intro x h hn
  have hne:x.net≠[]:=fun e=>by rw[e] at hn;simp at hn
  have h0:0<x.net.length:=by omega
  have ec:XS.comes (n+1) x=XS.comes n (x.come 0):=by
   show(if x.net=[] then x else XS.comes n (x.come 0))=_
   rw[if_neg hne]
  obtain⟨p0,r,hnet⟩:∃p0 r,x.net=p0::r:=by
   cases e:x.net with
   | nil=>exact absurd e hne
   | cons p0 r=>exact⟨p0,r,rfl⟩
  have her:x.net.eraseIdx 0=r:=by rw[hnet];rfl
  have hr:n≤r.length:=by rw[hnet] at hn;simpa using hn
  have hp0:x.net[0]'h0=p0:=by simp[hnet]
  have hs:=h.s2
  obtain⟨c1,c2,c3,c4,c5⟩:=zrf h 0 h0
  have hcok:=zts h.fr h.tt h.ln
  have hg2:=h.g2
  have okA:frC (xfm x.fr true x.ge (x.sq - 1) x.cur)=0:=ztg h.fr hcok hg2 (by omega)
  have okR:frC (xfm x.fr false x.ge (x.sq - 1) x.cur)=0:=ztg h.fr hcok hg2 (by omega)
  have stay:∀add:List (List UInt8×Bool),x.come 0={x with net:=r++add}→(x.dn=false→p0≠gan x)→(x.dn=false→p0=grq x→gan x∈add)→
    XInv t0 (XS.comes n (x.come 0))∧(XS.comes n (x.come 0)).fr=x.fr∧(XS.comes n (x.come 0)).ge=x.ge∧(XS.comes n (x.come 0)).net.length≤x.net.length∧(x.dn=true→(XS.comes n (x.come 0)).dn=true∧(XS.comes n (x.come 0)).tt=x.tt)∧
    (x.dn=false→((XS.comes n (x.come 0)).dn=true∨(XS.comes n (x.come 0)).mu<x.mu)∨∃l,XS.comes n (x.come 0)={x with net:=l}∧(∀p∈x.net.drop (n+1),p∈l)∧(∀p∈x.net.take (n+1),p≠gan x)∧(∀p∈x.net.take (n+1),p=grq x→gan x∈l)):=by
   intro add he ha hq
   rw[he] at c1 c4 ⊢
   have c4:(r++add).length≤x.net.length:=c4
   obtain⟨i1,i2,i3,i4,i5,i6⟩:=ih c1 (by show n≤(r++add).length;rw[List.length_append];omega)
   refine⟨i1,i2,i3,Nat.le_trans i4 c4,i5,fun hd=>?_⟩
   rcases i6 hd with i6|⟨l,e1,e2,e3,e4⟩
   ·exact .inl i6
   ·have hdr:∀p,p∈r.drop n∨p∈add→p∈l:=fun p hp=>e2 p (by
     show p∈(r++add).drop n
     rw[List.drop_append_of_le_length hr]
     exact List.mem_append.2 hp)
    have htk:(r++add).take n=r.take n:=List.take_append_of_le_length hr
    have e3:∀p∈(r++add).take n,p≠gan x:=e3
    have e4:∀p∈(r++add).take n,p=grq x→gan x∈l:=e4
    rw[htk] at e3 e4
    refine .inr ⟨l,e1,fun p hp=>hdr p (.inl (by rw[hnet] at hp;simpa using hp)),fun p hp=>?_,fun p hp e=>?_⟩
    ·rw[hnet,List.take_succ_cons] at hp
     rcases List.mem_cons.1 hp with rfl|hp
     ·exact ha hd
     ·exact e3 p hp
    ·rw[hnet,List.take_succ_cons] at hp
     rcases List.mem_cons.1 hp with rfl|hp
     ·exact hdr _ (.inr (hq hd e))
     ·exact e4 p hp e
  rw[ec]
  cases came h 0 h0 with
  | bad hb he=>
   rw[hp0] at hb
   rw[her] at he
   refine stay [] (by rw[List.append_nil];exact he) (fun _ e=>?_) (fun _ e=>?_)
   ·rw[e] at hb
    exact hb (by show(zfe (frT (xfm x.fr true x.ge (x.sq - 1) x.cur))).2=0;rw[zi3 _ okA])
   ·rw[e] at hb
    exact absurd (by show(zfe (frT (xfm x.fr false x.ge (x.sq - 1) x.cur))).2=0;rw[zi3 _ okR]) hb
  | req u e q hu h1 h2 hr' hb he hp=>
   rw[hp0] at hb
   rw[her] at hp
   refine stay _ hp (fun hd e'=>?_) (fun hd e'=>?_)
   ·rw[e'] at hb
    have:zfe (frT (xfm x.fr true x.ge (x.sq - 1) x.cur))=(xrq e q u,0):=hb
    rw[zi3 _ okA] at this
    have k1:=congrArg (fun z=>z.1.k) this
    exact absurd (by have:=zp9 e q u;rw[←k1] at this;exact this) (zi8 x.fr x.ge (x.sq - 1) x.cur)
   ·rw[e'] at hb
    have:zfe (frT (xfm x.fr false x.ge (x.sq - 1) x.cur))=(xrq e q u,0):=hb
    rw[zi3 _ okR] at this
    have hf:xrq x.ge (x.sq - 1) x.cur=xrq e q u:=congrArg Prod.fst this
    have k1:e=x.ge:=by have:=congrArg PFr.e hf;rw[yp5,yp5] at this;omega
    have k2:q=x.sq - 1:=by have:=congrArg PFr.q hf;rw[yh5,yh5] at this;omega
    have k3:=(hr' k1).2 (by have:=(h.ask hd).1;omega) hd
    rw[k1,k2,k3]
    exact List.mem_singleton.2 rfl
  | old u e q hu h1 h2 hr' hb hc he=>
   rw[hp0] at hb
   rw[her] at he
   refine stay [] (by rw[List.append_nil];exact he) (fun hd e'=>?_) (fun hd e'=>?_)
   ·obtain⟨a1,a2⟩:=h.ask hd
    rw[e'] at hb
    have:zfe (frT (xfm x.fr true x.ge (x.sq - 1) x.cur))=(xan x.fr e q u,0):=hb
    rw[zi3 _ okA] at this
    have hf:xan x.fr x.ge (x.sq - 1) x.cur=xan x.fr e q u:=congrArg Prod.fst this
    have hk:x.ask.k≠0:=by rw[a2];exact ym6 _ _ _
    have hg:=h.g1
    rw[←hf] at hc
    rcases hc with hc|hc|hc|hc|hc
    ·rw[hd] at hc;cases hc
    ·exact hk hc
    ·exact hc (by rw[a2,yp7,yh5])
    ·omega
    ·exact hc (yp8 _ _ _ _)
   ·rw[e'] at hb
    have:zfe (frT (xfm x.fr false x.ge (x.sq - 1) x.cur))=(xan x.fr e q u,0):=hb
    rw[zi3 _ okR] at this
    have k1:=congrArg (fun z=>z.1.k) this
    exact absurd (by have:=zp9 x.ge (x.sq - 1) x.cur;rw[show(xrq x.ge (x.sq - 1) x.cur).k=(xan x.fr e q u).k from k1] at this;exact this) (zi8 x.fr e q u)
  | now hd ha hq hg he1 hb he=>
   obtain⟨m1,m2,m3,m4,m5⟩:=zl7 (zht h 0) hd
   obtain⟨n1,n2,n3,n4,n5,n6⟩:=zlo m1
   have e3:(XS.took {x with net:=x.net.eraseIdx 0}).net.length=r.length:=by rw[m3];exact congrArg List.length her
   rw[←he] at n2 n6
   have m2:(XS.took {x with net:=x.net.eraseIdx 0}).mu<x.mu:=m2
   obtain⟨i1,i2,i3,i4,i5,i6⟩:=ih c1 (by omega)
   refine⟨i1,i2.trans c2,i3.trans c3,by omega,fun hd'=>(by rw[hd] at hd';cases hd'),fun _=>.inl ?_⟩
   cases hd1:(x.come 0).dn with
   | true=>exact .inl (i5 hd1).1
   | false=>
    have hm:(x.come 0).mu<x.mu:=by
     rcases n2 with n2|n2
     ·rw[hd1] at n2;cases n2
     ·omega
    rcases i6 hd1 with(i6|i6)|⟨l,e1,_⟩
    ·exact .inl i6
    ·exact .inr (by omega)
    ·refine .inr ?_
     rw[e1]
     exact hm
open Classical in
noncomputable def ph (x:XS):Nat:=if gan x∈x.net then 0 else if grq x∈x.net then 1 else 2+(64 - x.age)
theorem yqu(x:XS):ph x≤66:=by unfold ph;(repeat' split)<;>omega
theorem yqv(h:gan x∈x.net):ph x=0:=by unfold ph;rw[if_pos h]
theorem yqt(h:grq x∈x.net):ph x≤1:=by unfold ph;rw[if_pos h];split<;>omega
theorem yqw(x:XS):ph x≤2+(64 - x.age):=by unfold ph;(repeat' split)<;>omega
theorem yn0(h1:gan x∉x.net)(h2:grq x∉x.net):ph x=2+(64 - x.age):=by unfold ph;rw[if_neg h1,if_neg h2]
theorem ynz(h1:gan x∉x.net):1≤ph x:=by unfold ph;rw[if_neg h1];split<;>omega
noncomputable def left (x:XS):Nat:=x.mu * 67+ph x
def XS.round(x:XS):XS:=(XS.comes x.net.length x).tick
theorem mu_le(h:XInv t0 x):x.mu≤41:=by
 have:=x.needs_le
 have:=h.fr.wf.few
 unfold XS.mu
 split<;>omega
theorem yfm(h:XInv t0 x):left x≤3000:=by
 have:=mu_le h
 have:=yqu x
 unfold left
 omega
theorem zr7(h:XInv t0 x):XInv t0 x.round∧x.round.fr=x.fr∧x.round.ge=x.ge∧x.round.net.length≤x.net.length+1∧(x.dn=true→x.round.dn=true∧x.round.tt=x.tt)∧(x.dn=false→x.round.dn=true∨left x.round<left x):=by
 obtain⟨c1,c2,c3,c4,c5,c6⟩:=yhc x.net.length h (Nat.le_refl _)
 have hr:x.round=(XS.comes x.net.length x).tick:=rfl
 rw[hr]
 generalize XS.comes x.net.length x=y at *
 obtain⟨t1,t2,t3,t4,t5,t6⟩:=zlf c1
 refine⟨t1,t2.trans c2,t3.trans c3,by omega,fun hd=>⟨t5.trans (c5 hd).1,t6.trans (c5 hd).2⟩,fun hd=>?_⟩
 cases hdy:y.dn with
 | true=>exact .inl (t5.trans hdy)
 | false=>
  refine .inr ?_
  have hmu:y.tick.mu=y.mu:=by
   rcases zuo c1 with⟨_,e⟩|⟨_,e|⟨_,e⟩⟩<;>rw[e]<;>rfl
  rcases c6 hd with(hy|hy)|⟨l,e1,e2,e3,e4⟩
  ·rw[hdy] at hy;cases hy
  ·have:=yqu y.tick
   unfold left
   omega
  ·rw[List.take_length] at e3 e4
   have hno:gan x∉x.net:=fun hm=>e3 _ hm rfl
   have hmx:y.mu=x.mu:=by rw[e1];rfl
   have hgy:gan y=gan x:=by rw[e1];rfl
   have hqy:grq y=grq x:=by rw[e1];rfl
   have hay:y.age=x.age:=by rw[e1]
   have hly:y.net=l:=by rw[e1]
   have hcase:(gan x∈y.net→gan y.tick∈y.tick.net)∧(grq y.tick∈y.tick.net∨y.tick.age=x.age+1):=by
    rcases zuo c1 with⟨h1,_⟩|⟨_,e|⟨_,e⟩⟩
    ·rw[hdy] at h1;cases h1
    ·rw[e]
     refine⟨fun hm=>?_,.inl ?_⟩
     ·show gan y∈y.net++_
      rw[hgy]
      exact List.mem_append_left _ hm
     ·show grq y∈y.net++[grq y]
      simp
    ·rw[e]
     refine⟨fun hm=>?_,.inr ?_⟩
     ·show gan y∈y.net
      rw[hgy]
      exact hm
     ·show y.age+1=_
      rw[hay]
   have hage:x.age<64:=by
    have:=h.age.2 hd
    have:=h.flow.2.2.2.2.2.1
    omega
   unfold left
   rw[hmu,hmx]
   by_cases hq:grq x∈x.net
   ·have hg:=e4 _ hq rfl
    rw[←hly] at hg
    have:=yqv (hcase.1 hg)
    have:=ynz hno
    omega
   ·rw[yn0 hno hq]
    rcases hcase.2 with hr|hr
    ·have:=yqt hr
     omega
    ·have:=yqw y.tick
     omega
theorem zyc(n:Nat)(x:XS)(h:x.dn=false):XS.fin (n+1) x=XS.fin n x.round:=by
 show(if x.dn=true then x else _)=_
 rw[if_neg (by rw[h];simp)]
 rfl
theorem zyd(n:Nat)(x:XS)(h:x.dn=true):XS.fin n x=x:=by
 cases n with
 | zero=>rfl
 | succ n=>show(if x.dn=true then x else _)=_;rw[if_pos h]
theorem ygm(n:Nat):∀{x:XS},XInv t0 x→(x.dn=true∨left x≤n)→(XS.fin n x).dn=true∧XInv t0 (XS.fin n x)∧(XS.fin n x).fr=x.fr∧(XS.fin n x).ge=x.ge∧(XS.fin n x).net.length≤x.net.length+n:=by
 induction n with
 | zero=>
  intro x h hl
  cases hd:x.dn with
  | true=>exact⟨hd,h,rfl,rfl,by simp[XS.fin]⟩
  | false=>
   rcases hl with hl|hl
   ·rw[hd] at hl;cases hl
   ·exfalso
    obtain⟨_,_,_,_,_,r6⟩:=zr7 h
    rcases r6 hd with r|r
    ·have:1≤left x:=by
      cases hk:x.kn with
      | false=>
       have:x.mu=2 * x.fr.length+1:=by unfold XS.mu;rw[if_pos hk]
       unfold left;omega
      | true=>
       obtain⟨f0,hf0,hno,_,_⟩:=zpw h hd hk
       have hm:x.mu=(x.fr.map x.need).sum:=by unfold XS.mu;rw[if_neg (by simp[hk])]
       have hpos:(x.fr.map fun _=>0).sum<(x.fr.map x.need).sum:=ycf (fun _ _=>Nat.zero_le _) hf0 (by unfold XS.need;rw[if_neg hno];split<;>omega)
       unfold left;omega
     omega
    ·omega
 | succ n ih=>
  intro x h hl
  cases hd:x.dn with
  | true=>rw[zyd _ _ hd];exact⟨hd,h,rfl,rfl,by omega⟩
  | false=>
   obtain⟨r1,r2,r3,r4,r5,r6⟩:=zr7 h
   rw[zyc n x hd]
   obtain⟨i1,i2,i3,i4,i5⟩:=ih r1 (by
    rcases r6 hd with r|r
    ·exact .inl r
    ·rcases hl with hl|hl
     ·rw[hd] at hl;cases hl
     ·exact .inr (by omega))
   exact⟨i1,i2,i3.trans r2,i4.trans r3,by omega⟩
end
section
variable{E:Nat→Addr}{w0 w:World}{xb:Nat}{A:XA}{x:XS}
theorem XAt.setLn(h:XAt w0 w xb A x){b:Nat}{r:Value}{l:List PL}(hr:w.ownsRow b 173 3 r l.length (zau l))(hb:w0.heap.size≤b):XAt w0 (w.setCell ⟨xb,12,none⟩ r) xb {A with vl:=r} {x with ln:=l}:=by
 have hc:=XCell.chg w xb 12 r
 have hq:=h.rest.xset h.cells h.lx 12 r
 obtain⟨es,c,hm⟩:=h.fu.isMap
 refine⟨h.cells.set 12 r rfl,⟨hq.fr,hq.tt,hq.nt,zan (za1 hr hb) hc (fun z hz e=>zcj hr h.cells (by decide) (by rw[hz,e])),hq.gt,hq.lm,hq.bel⟩,?_,?_,h.ne,h.lx,h.lf,h.lu⟩
 ·exact(hc.block A.fb h.fl.lt (zb2 h.fl h.cells (by decide))).trans h.fl
 ·exact h.fu.kept (hc.block A.ub h.fu.lt (fun e=>zcp h.cells hm e.symm))
theorem XAt.setKn(h:XAt w0 w xb A x)(b:Bool):XAt w0 (w.setCell ⟨xb,13,none⟩ (.bool b)) xb A {x with kn:=b}:=
 h.set 13 (.bool b) (A':=A) (x':={x with kn:=b}) rfl ⟨rfl,rfl,rfl⟩ ⟨rfl,rfl,rfl,rfl,rfl⟩ (fun w2 h=>⟨h.fr,h.tt,h.nt,h.ln,h.gt,h.lm,h.bel⟩)
theorem XAt.setAge(h:XAt w0 w xb A x)(a:Nat):XAt w0 (w.setCell ⟨xb,10,none⟩ (.int .i64 a)) xb A {x with age:=a}:=
 h.set 10 (.int .i64 a) (A':=A) (x':={x with age:=a}) rfl ⟨rfl,rfl,rfl⟩ ⟨rfl,rfl,rfl,rfl,rfl⟩ (fun w2 h=>⟨h.fr,h.tt,h.nt,h.ln,h.gt,h.lm,h.bel⟩)
theorem XAt.flow(h:XAt w0 w xb A x){w':World}{W L T G:Int}(hc:Chg w w' (fun b=>b=A.fb))(hf:FlowAt w' A.fb W L T G):XAt w0 w' xb A {x with W:=W,L:=L,T:=T,G:=G}:=by
 have hq:=h.rest.at hc h.fl (by decide) h.lf
 obtain⟨es,c,hm⟩:=h.fu.isMap
 refine⟨?_,⟨hq.fr,hq.tt,hq.nt,hq.ln,hq.gt,hq.lm,hq.bel⟩,hf,?_,h.ne,h.lx,h.lf,h.lu⟩
 ·exact(hc.block xb (lt_of_block h.cells) (fun e=>zb2 h.fl h.cells (by decide) e.symm)).trans h.cells
 ·exact h.fu.kept (hc.block A.ub h.fu.lt (fun e=>zcp h.fl hm e.symm))
theorem zuk(d:List UInt8)(h:XAt w0 w xb A x)(h0:(zex d).2=0)(hd:d.length≤100000000)(h1:Has E w0 1)(h2:Has E w0 2)(h5:Has E w0 5)(h8:Has E w0 8)(h9:Has E w0 9):
  Calls Tryz.prog 223 #[.pointer (some ⟨xb,0,none⟩),.string (bs d)] w fun e w'=>e=.returned (.tuple #[])∧∃A',XAt w0 w' xb A' (x.listed d):=by
 have HS:=hid (fun(c:Nat)(hh:Has E w0 c)=>hh.below h.rest.bel)
 have RD:=ya5 E (bs d) w (by rw[zae];exact hd) (HS.out 1 h1) (HS.out 2 h2) (HS.out 5 h5) (HS.out 8 h8) (HS.out 9 h9)
 rw[zai,h0,zaj] at RD
 have RD:=hid RD
 have HX:=hid h
 have XL:x.listed d={x with ln:=(zex d).1,kn:=true}:=by unfold XS.listed;rw[if_pos h0]
 rw[XL]
 clear h h0 hd h1 h2 h5 h8 h9 HS XL
 generalize (zex d).1=l at *
 go_enter Tryz.func223,Tryz.ntmps223
 go_wp2_with fail
 refine RD.out.mono ?_
 rintro e w1⟨v,rfl,o1,b1⟩
 have X1:=HX.out.below b1
 have X2:=hid ((X1.setLn o1 HX.out.rest.bel.size).setKn true)
 have f12:=X1.cells.fz 12
 have f13:=X1.cells.fz 13
 have c12:=X1.cells.cs.2.2.2.2.2.2.2.2.2.2.2.2.1
 have c13:=X1.cells.cs.2.2.2.2.2.2.2.2.2.2.2.2.2.1
 obtain⟨va,vc,rfl⟩:=zab o1
 clear o1 b1 RD HX X1
 go_wp2_with fail
 go_returns
 exact⟨rfl,_,X2.out⟩
theorem zrp(h:XAt w0 w xb A x)(ok:zgm x.W x.L x.T x.G)(ha:x.age≤1000000)(hn:x.net.length≤1000000000)(h2:Has E w0 2)(h4:Has E w0 4):
  Calls Tryz.prog 151 #[.pointer (some ⟨xb,0,none⟩)] w fun e w'=>e=.returned (.tuple #[])∧∃A',XAt w0 w' xb A' x.tick:=by
 have HX:=hid h
 have c15:=h.cells.cs.2.2.2.2.2.2.2.2.2.2.2.2.2.2.2
 by_cases hd:x.dn=true
 ·have XL:x.tick=x:=by unfold XS.tick;rw[if_pos (.inl hd)]
  rw[XL]
  rw[hd] at c15
  clear h h2 h4 ok XL hd
  go_enter Tryz.func151,Tryz.ntmps151
  go_wp2_with fail
  go_returns
  exact⟨rfl,A,HX.out⟩
 ·have hd0:x.dn=false:=by simpa using hd
  rw[hd0] at c15
  have c6:=h.cells.cs.2.2.2.2.2.2.1
  by_cases hk:x.ask.k=0
  ·have XL:x.tick=x:=by unfold XS.tick;rw[if_pos (.inr hk)]
   rw[XL]
   rw[hk,show(((0:UInt8).toNat:Nat):Int)=0 from rfl] at c6
   clear h h2 h4 ok XL hd hk hd0
   go_enter Tryz.func151,Tryz.ntmps151
   go_wp2_with fail
   go_returns
   exact⟨rfl,A,HX.out⟩
  ·have hkk:(((x.ask.k.toNat:Nat):Int)==0)=false:=by
    rw[beq_eq_false_iff_ne]
    intro e
    exact hk (UInt8.toNat_inj.1 (by simpa using e))
   generalize hkI:((x.ask.k.toNat:Nat):Int)=kk at c6 hkk
   have c10:=h.cells.cs.2.2.2.2.2.2.2.2.2.2.1
   have f10:=h.cells.fz 10
   have X1:=hid (h.setAge (x.age+1))
   have hw:IntKind.i64.wrap ((x.age:Int)+1)=((x.age+1:Nat):Int):=by rw[IntWalk.i64_in _ (by omega)];omega
   have c6':=X1.out.cells.cs.2.2.2.2.2.2.1
   generalize hage:x.age=age at *
   generalize hage1:age+1=age1 at *
   clear h
   by_cases hT:x.T≤(age1:Int)
   ·have XL:x.tick=XS.put x.ask {x with age:=0}.bad:=by unfold XS.tick;rw[if_neg (by rintro(h|h)<;>contradiction),if_pos (by rw[hage,hage1];exact hT)]
    rw[XL]
    have hTd:decide (x.T≤(age1:Int))=true:=by simpa using hT
    have PT:=hid (fun(w':World)(X:XAt w0 w' xb A {x with age:=0}.bad)=>zld (E:=E) x.ask X hn (h2.below X.rest.bel) (h4.below X.rest.bel))
    have OK:=hid ok
    clear XL hd hk hd0 h2 h4 ok
    go_enter Tryz.func151,Tryz.ntmps151
    go_wp2_with fail
    generalize w.setCell ⟨xb,10,none⟩ (.int .i64 age1)=w1 at *
    have c10:=X1.out.cells.cs.2.2.2.2.2.2.2.2.2.2.1
    have c11:=X1.out.cells.cs.2.2.2.2.2.2.2.2.2.2.2.1
    have WT:=hid (fun n=>yca A.fb x.W x.L x.T x.G (w1.drewN n) (X1.out.fl.drewN n))
    go_quiet ((go_at_call 184;exact Calls.quiet_of_same (WT.out _)))
    have Y1:=hid (X1.out.below (zac (Below.refl _ w1) nq))
    generalize w1.drewN nq=w2 at *
    clear X1 c10 c11 c6 c6' c15 f10 WT
    have f10:=Y1.out.cells.fz 10
    have c10:=Y1.out.cells.cs.2.2.2.2.2.2.2.2.2.2.1
    have c11:=Y1.out.cells.cs.2.2.2.2.2.2.2.2.2.2.2.1
    have Y2:=hid (Y1.out.setAge 0)
    go_wp2_with fail
    refine(yrt A.fb x.W x.L x.T x.G _ Y2.out.fl OK.out).mono ?_
    rintro e w3⟨rfl,hf,hg⟩
    have Y3:XAt w0 w3 xb A {x with age:=0}.bad:=Y2.out.flow ⟨hg.os,hg.tape,hg.output,hg.size,fun k hk hn=>hg.block k hk (fun e=>hn (by cases e;rfl))⟩ hf
    have PT3:=PT.out w3 Y3
    rw[PFr.val_is,hkI] at PT3
    have PT3:=hid PT3
    have c6:=Y3.cells.cs.2.2.2.2.2.2.1
    have c7:=Y3.cells.cs.2.2.2.2.2.2.2.1
    have c8:=Y3.cells.cs.2.2.2.2.2.2.2.2.1
    have c9:=Y3.cells.cs.2.2.2.2.2.2.2.2.2.1
    have e6:(XS.bad {x with age:=0}).ask=x.ask:=rfl
    rw[e6] at c6 c7 c8 c9
    rw[hkI] at c6
    clear hf hg Y1 Y2 Y3 OK PT c10 c11 f10 e6
    go_wp2_with fail
    refine PT3.out.mono ?_
    rintro e w4⟨rfl,A',hA⟩
    have HA:=hid hA
    clear hA PT3
    go_wp2_with fail
    go_returns
    exact⟨rfl,A',HA.out⟩
   ·have XL:x.tick={x with age:=age1}:=by unfold XS.tick;rw[if_neg (by rintro(h|h)<;>contradiction),if_neg (by rw[hage,hage1];exact hT),hage,hage1]
    rw[XL]
    have hTd:decide (x.T≤(age1:Int))=false:=by simpa using hT
    clear XL hd hk hd0 h2 h4 ok
    go_enter Tryz.func151,Tryz.ntmps151
    go_wp2_with fail
    generalize w.setCell ⟨xb,10,none⟩ (.int .i64 age1)=w1 at *
    have c10:=X1.out.cells.cs.2.2.2.2.2.2.2.2.2.2.1
    have c11:=X1.out.cells.cs.2.2.2.2.2.2.2.2.2.2.2.1
    have WT:=hid (fun n=>yca A.fb x.W x.L x.T x.G (w1.drewN n) (X1.out.fl.drewN n))
    go_quiet ((go_at_call 184;exact Calls.quiet_of_same (WT.out _)))
    have Y1:=hid (X1.out.below (zac (Below.refl _ w1) nq))
    generalize w1.drewN nq=w2 at *
    clear X1 c10 c11 c6 c6' c15 f10 WT
    go_wp2_with fail
    go_returns
    exact⟨rfl,A,Y1.out⟩
end
def yh2(w0:World)(xb:Nat)(t0:List PF):Prop:=∀(x:XS)(k:Nat)(w:World)(A:XA),XInv t0 x→XAt w0 w xb A x→k<x.net.length→x.net.length≤1000000000→
  Calls Tryz.prog 152 #[.pointer (some ⟨xb,0,none⟩),.int .i64 k] w fun e w'=>e=.returned (.tuple #[])∧∃A',XAt w0 w' xb A' (x.come k)
section
variable{E:Nat→Addr}{w0 w:World}{xb:Nat}{A:XA}{x:XS}{t0:List PF}
theorem ybp{x:XS}{n:Nat}(h:0<x.net.length):XS.comes (n+1) x=XS.comes n (x.come 0):=by
 show(if x.net=[] then x else XS.comes n (x.come 0))=_
 rw[if_neg (fun e=>by rw[e] at h;simp at h)]
theorem ybq{x:XS}{n:Nat}(h:x.net.length=0):XS.comes n x=x:=by
 cases n with
 | zero=>rfl
 | succ n=>show(if x.net=[] then x else XS.comes n (x.come 0))=_;rw[if_pos (List.eq_nil_of_length_eq_zero h)]
def zdh:Nat:=1048576
theorem zhb:zdh=1048576:=rfl
attribute [irreducible] zdh
theorem ykw{x x':XS}{n:Nat}(hd:x.dn=false)(h:XS.comes x.net.length x=x'):XS.fin (n+1) x=XS.fin n x'.tick:=by
 rw[zyc n x hd]
 unfold XS.round
 rw[h]
theorem zul(hI:XInv t0 x)(h:XAt w0 w xb A x)(hn:x.net.length≤1000000)(hg:x.ge≤100000)(CM:yh2 w0 xb t0)(h2:Has E w0 2)(h4:Has E w0 4):
  Calls Tryz.prog 109 #[.pointer (some ⟨xb,0,none⟩)] w fun e w'=>e=.returned (.bool true)∧∃A',XAt w0 w' xb A' (XS.fin zdh x):=by
 have FD:=hid (ygm zdh hI (.inr (by have:=yfm hI;have:=zhb;omega))).1
 have CMH:=hid CM
 have TK:=hid (fun(x':XS)(hI:XInv t0 x')(w':World)(A':XA)(h:XAt w0 w' xb A' x')(hn:x'.net.length≤1000000000)=>zrp (E:=E) h hI.flow (by have:=hI.age.1;omega) hn h2 h4)
 have HX:=hid h
 have HI:=hid hI
 have HN:=hid hn
 clear h hI hn hg CM h2 h4
 go_enter Tryz.func109,Tryz.ntmps109
 go_wp2_with fail
 go_loopw [4,3] (fun i n wr=>∃(k:Nat)(x':XS)(A':XA),i=.int .i64 k∧k≤zdh∧XAt w0 wr xb A' x'∧XInv t0 x'∧XS.fin (zdh - k) x'=XS.fin zdh x∧x'.net.length≤1000000+k) (fun i _ _=>zdh - (intOf i).toNat)
 case atStart=>exact⟨0,x,A,rfl,by omega,HX.out,HI.out,rfl,HN.out⟩
 case round=>
  obtain⟨k,x',A',rfl,hk,hX,hI,hf,hn⟩:=hrel
  clear HX HI HN
  have c15:=hX.cells.cs.2.2.2.2.2.2.2.2.2.2.2.2.2.2.2
  have hT:=zhb
  by_cases hlt:k<zdh
  ·have hltI:(k:Int)<1048576:=by omega
   by_cases hd:x'.dn=true
   ·rw[hd] at c15
    rw[zyd _ _ hd] at hf
    have HXF:=hid hX
    have HF:=hid hf
    clear hX hf hI hd
    go_wp2_with fail
    go_ret
    exact⟨rfl,A',by rw[←HF.out];exact HXF.out⟩
   ·have hd:x'.dn=false:=by simpa using hd
    rw[hd] at c15
    have c3:=hX.cells.cs.2.2.2.1
    obtain⟨va,vc,hv⟩:=zab hX.rest.nt
    rw[hv] at c3
    have HXF:=hid hX
    have HI:=hid hI
    obtain⟨m,hm⟩:∃m,x'.net.length=m:=⟨_,rfl⟩
    obtain⟨r,hr⟩:∃r,zdh - k=r+1:=⟨zdh - k - 1,by omega⟩
    have HF:=hid (fun(y:XS)(h:XS.comes m x'=y)=>(ykw (x':=y) (n:=r) hd (by rw[hm];exact h)).symm.trans ((congrArg (fun n=>XS.fin n x') hr).symm.trans hf))
    have KK:=hid (show k+1≤zdh∧zdh - (k+1)=r by omega)
    have HM:=hid (show x'.net.length≤m by omega)
    have HT:=hid hT
    have HLT:=hid hlt
    have hkw:IntKind.i64.wrap ((k:Int)+1)=(k:Int)+1:=IntWalk.i64_in _ (by omega)
    rw[hm] at c3 hn
    have HNN:=hid hn
    have HMS:m≤1000000000:=by have:=zhb;omega
    clear hX hf hI hr hT hlt hk hv hn hm
    rename_i hdd
    clear hd hdd
    go_wp2_with fail
    clear hltI
    go_loopw [3] (fun i wr=>∃(j:Nat)(y:XS)(A':XA),i=.int .i64 j∧j≤m∧XAt w0 wr xb A' y∧XInv t0 y∧XS.comes j y=XS.comes m x'∧y.net.length≤m) (fun i _=>(intOf i).toNat)
    case atStart=>exact⟨m,x',A',rfl,Nat.le_refl _,HXF.out,HI.out,rfl,HM.out⟩
    case round=>
     clear HXF HI HM c3 c15
     obtain⟨j,y,A1,rfl,hj,hX,hI,hc,hny⟩:=hrel
     have c3:=hX.cells.cs.2.2.2.1
     obtain⟨ya,yc,hv⟩:=zab hX.rest.nt
     rw[hv] at c3
     by_cases hj0:j=0
     ·subst hj0
      have HF2:=hid (HF.out y hc.symm)
      have T:=hid (TK.out y hI _ A1 hX (by omega))
      have TI:=hid (zlf hI)
      have HNY:=hid hny
      clear HF hc hX hI hv hny hj HMS
      go_wp2_with fail
      refine T.out.mono ?_
      rintro e w9⟨rfl,A9,hA⟩
      have HA:=hid hA
      clear hA T c3
      go_wp2_with fail
      go_roundw
      case rel=>exact⟨k+1,_,A9,by go_num,KK.out.1,HA.out,TI.out.1,by rw[KK.out.2];exact HF2.out,by have:=TI.out.2.2.2.1;have:=HNN.out;have:=HNY.out;omega⟩
      case measure=>(have:=HT.out;have:=HLT.out;simp[intOf];omega)
     ·have hjI:(0:Int)<j:=by omega
      by_cases hn0:y.net.length=0
      ·rw[ybq hn0] at hc
       have HF2:=hid (HF.out y hc.symm)
       have T:=hid (TK.out y hI _ A1 hX (by omega))
       have TI:=hid (zlf hI)
       rw[hn0] at c3
       have HNY:=hid hny
       clear HF hc hX hI hv hj0 hn0 hny hj HMS
       go_wp2_with fail
       refine T.out.mono ?_
       rintro e w9⟨rfl,A9,hA⟩
       have HA:=hid hA
       clear hA T c3
       go_wp2_with fail
       go_roundw
       case rel=>exact⟨k+1,_,A9,by go_num,KK.out.1,HA.out,TI.out.1,by rw[KK.out.2];exact HF2.out,by have:=TI.out.2.2.2.1;have:=HNN.out;have:=HNY.out;omega⟩
       case measure=>(have:=HT.out;have:=HLT.out;simp[intOf];omega)
      ·have hnI:(0:Int)<y.net.length:=by omega
       obtain⟨j',rfl⟩:∃j',j=j'+1:=⟨j - 1,by omega⟩
       rw[ybp (by omega)] at hc
       have C:=hid (CMH.out y 0 _ A1 hI hX (by omega) (by omega))
       have CI:=hid (zrf hI 0 (by omega))
       have HC:=hid hc
       have HNY:=hid hny
       have HJ:=hid hj
       have hjw:IntKind.i64.wrap (((j'+1:Nat):Int) - 1)=(j':Int):=by rw[IntWalk.i64_in _ (by omega)];omega
       generalize hJI:((j'+1:Nat):Int)=jI at *
       have HJI:=hid hJI
       clear hc hX hI hv hj0 hn0 hny hj hJI HMS
       go_wp2_with fail
       refine C.out.mono ?_
       rintro e w9⟨rfl,A9,hA⟩
       have HA:=hid hA
       clear hA C c3
       go_wp2_with fail
       go_roundw
       case rel=>exact⟨j',_,A9,by go_num,by have:=HJ.out;omega,HA.out,CI.out.1,HC.out,by have:=CI.out.2.2.2.1;have:=HNY.out;omega⟩
       case measure=>(have:=HJI.out;simp[intOf];omega)
  ·have hltI:¬(k:Int)<1048576:=by omega
   have hk0:zdh - k=0:=by omega
   rw[hk0] at hf
   have hf:x'=XS.fin zdh x:=hf
   have hdn:x'.dn=true:=by have:=FD.out;rw[←hf] at this;exact this
   rw[hdn] at c15
   have HXF:=hid hX
   have HF:=hid hf
   clear hX hf hI hdn hT
   go_wp2_with fail
   go_ret
   refine⟨rfl,A',?_⟩
   have h1:=HF.out
   have h2:=zhb
   rw[←h1]
   exact HXF.out
end
structure SP where
 fr:List PF
 tt:List PF
 gm:GM
 tp:TP
abbrev An:=List UInt8×Nat
def zg2:List UInt8:=[111,107]
def zha:List UInt8:=[100,111,110,101]
def zru:List UInt8:=[110,111,116,104,105,110,103]
def zpu:List UInt8:=[102,114,111,109]
def wTo:List UInt8:=[116,111]
def zcu:List (List UInt8)→List UInt8
 | []=>[]
 | [a]=>a
 | a::b::l=>a++32::zcu (b::l)
def zfo(l:List (List UInt8)):List UInt8:=if l=[] then zru else zcu l
def zbx(a:List UInt8):Option Bool:=if a=zpu then some true else if a=wTo then some false else none
namespace SP
def files(s:SP)(b:Bool):List PF:=if b then s.fr else s.tt
def setF(s:SP)(b:Bool)(l:List PF):SP:=if b then {s with fr:=l} else {s with tt:=l}
def put(s:SP)(rest:List UInt8):SP×An:=
 match zbx (zec 32 rest) with
 | none=>(s,[],1)
 | some b=>
  if (zdu 32 rest).isSome=false∨(zdu 32 (zcc 32 rest)).isSome=false then (s,[],1)
  else if (putF (s.files b) (zec 32 (zcc 32 rest)) (zcc 32 (zcc 32 rest))).1=0 then (s.setF b (zal (s.files b) (zec 32 (zcc 32 rest)) (zcc 32 (zcc 32 rest))),zg2,0)
  else (s,zg2,(putF (s.files b) (zec 32 (zcc 32 rest)) (zcc 32 (zcc 32 rest))).1)
def drop(s:SP)(a n:List UInt8):SP×An:=
 match zbx a with
 | none=>(s,[],1)
 | some b=>if (zaq (s.files b) n).isSome then (s.setF b (zda (s.files b) n),zg2,0) else (s,[],6)
def lineT(x:PL):List UInt8:=x.n++58::(Lib.decDigits x.N.toNat++58::Lib.decDigits x.S)
def list(s:SP)(a:List UInt8):SP×An:=
 match zbx a with
 | none=>(s,[],1)
 | some b=>(s,zfo ((s.files b).map fun f=>lineT f.line),0)
def stepT(x:PS):List UInt8:=x.k++58::x.n
def plan(s:SP):SP×An:=(s,zfo ((zb3 (s.fr.map PF.line) (s.tt.map PF.line)).map stepT),0)
def size(s:SP)(n k:List UInt8):SP×An:=
 match nmL 6 k with
 | none=>(s,[],1)
 | some z=>
  if z<1∨64<z then (s,[],2)
  else
   let ops:=zc1 (zeu z (zax s.tt n)) z (zax s.fr n)
   (s,Lib.decDigits (zb7 ops)++32::Lib.decDigits ops.length,0)
def nums:List (List UInt8)→Option (List Nat)
 | []=>some []
 | w::l=>match nmL 6 w,nums l with
  | some n,some r=>some (n::r)
  | _,_=>none
def sent(fr tt:List PF)(l:List Nat):List PF:=(XS.fin zdh (l.foldl (fun x (n:Nat)=>x.act (n:Int)) (XS.start fr tt))).tt
def send(s:SP)(w:List (List UInt8)):SP×An:=
 match nums w with
 | none=>(s,[],1)
 | some l=>({s with tt:=sent s.fr s.tt l},zha,0)
def opens(s:SP)(k:List UInt8):SP×An:=({s with gm:=opM s.gm k},Lib.decDigits (opN s.gm k),zhk s.gm k)
def admits(s:SP)(k d:List UInt8):SP×An:=
 match nmL 6 d with
 | none=>(s,[],1)
 | some n=>(s,zg2,adC s.gm k n)
def mark(s:SP)(n d:List UInt8):SP×An:=
 match nmL 6 d with
 | none=>(s,[],1)
 | some k=>
  match zaq s.tt n with
  | none=>(s,[],6)
  | some x=>
   if x.length<k then (s,[],2)
   else if mkC ⟨n,k,za5 (x.take k)⟩≠0 then (s,zg2,mkC ⟨n,k,za5 (x.take k)⟩)
   else ({s with tp:=apT s.tp (mkX ⟨n,k,za5 (x.take k)⟩)},zg2,apC s.tp (mkX ⟨n,k,za5 (x.take k)⟩))
def marks(b:List UInt8):List PMk:=((zas b).1.filter fun s=>(rdM s).2==0).map fun s=>(rdM s).1
def far(s:SP)(n:List UInt8):SP×An:=(s,Lib.decDigits (zn6 n (zax s.tt n) (marks s.tp.b)).toNat,0)
def cut(s:SP)(d:List UInt8):SP×An:=
 match nmL 6 d with
 | none=>(s,[],1)
 | some n=>({s with tp:=ctT s.tp n},zg2,ctC s.tp n)
def again(s:SP):SP×An:=({s with tp:=rcT s.tp},Lib.decDigits (zas s.tp.b).1.length,0)
end SP
inductive Cmd
 | drop|list|plan|size|send|open|admits|mark|far|cut|again
deriving DecidableEq
def zci(w:List UInt8):Option Cmd:=
 if w=[100,114,111,112] then some .drop else if w=[108,105,115,116] then some .list else if w=[112,108,97,110] then some .plan
 else if w=[115,105,122,101] then some .size else if w=[115,101,110,100] then some .send else if w=[111,112,101,110] then some .open
 else if w=[97,100,109,105,116] then some .admits else if w=[109,97,114,107] then some .mark else if w=[102,97,114] then some .far
 else if w=[99,117,116] then some .cut else if w=[114,101,99,111,118,101,114] then some .again else none
def Cmd.words:Cmd→Option Nat
 | .drop=>some 2|.list=>some 1|.plan=>some 0|.size=>some 2|.send=>none|.open=>some 1|.admits=>some 2|.mark=>some 2|.far=>some 1|.cut=>some 1|.again=>some 0
namespace SP
def does(s:SP)(c:Cmd)(w:List (List UInt8)):SP×An:=
 match c,w with
 | .drop,[a,n]=>s.drop a n
 | .list,[a]=>s.list a
 | .plan,[]=>s.plan
 | .size,[n,k]=>s.size n k
 | .send,w=>s.send w
 | .open,[k]=>s.opens k
 | .admits,[k,d]=>s.admits k d
 | .mark,[n,d]=>s.mark n d
 | .far,[n]=>s.far n
 | .cut,[d]=>s.cut d
 | .again,[]=>s.again
 | _,_=>(s,[],1)
def wPut:List UInt8:=[112,117,116,32]
def play(s:SP)(line:List UInt8):SP×An:=
 if wPut.isPrefixOf line then s.put (line.drop 4)
 else match zci ((zcn 32 line).headD []) with
  | none=>(s,[],1)
  | some c=>if c.words=none∨c.words=some ((zcn 32 line).length - 1) then s.does c (zcn 32 line).tail else (s,[],1)
def told(a:An):List UInt8:=if a.2=0 then a.1 else zit a.2
def run:SP→List (List UInt8)→List (List UInt8)
 | _,[]=>[]
 | s,l::r=>told (s.play l).2::run (s.play l).1 r
def after:SP→List (List UInt8)→SP
 | s,[]=>s
 | s,l::r=>after (s.play l).1 r
def zero:SP:=⟨[],[],[],⟨[],false,-1⟩⟩
theorem run_append(s:SP)(a b:List (List UInt8)):s.run (a++b)=s.run a++(s.after a).run b:=by
 induction a generalizing s with
 | nil=>rfl
 | cons x a ih=>simp only[List.cons_append,run,after,ih]
end SP
structure SInv(s:SP):Prop where
 fr:Small s.fr
 tt:Small s.tt
 tpb:s.tp.b.length≤1048576
 tpc:-1≤s.tp.cut∧s.tp.cut≤9223372036854775807
 gk:∀k,glk s.gm k≤2147483648
theorem zgg(c:UInt8)(l:List UInt8):(zcc c l).length≤l.length:=by
 unfold zcc
 have:∀l:List UInt8,∀p,zdu c l=some p→p.2.length≤l.length:=by
  intro l
  induction l with
  | nil=>intro p h;cases h
  | cons b l ih=>
   intro p h
   unfold zdu at h
   by_cases hb:b=c
   ·rw[if_pos hb] at h
    cases h
    simp
   ·rw[if_neg hb] at h
    obtain⟨q,hq,rfl⟩:=Option.map_eq_some_iff.1 h
    have:=ih q hq
    simp only[List.length_cons]
    omega
 cases h:zdu c l with
 | none=>simp
 | some p=>exact this l p h
theorem ydv{l:List PF}{n d:List UInt8}(h:Small l)(hp:(putF l n d).1=0)(hd:d.length≤200):Small (zal l n d):=by
 have h0:=(zbd l).2 h.wf
 rw[zqj h0] at hp
 refine⟨(zbd _).1 hp,fun f hf=>?_⟩
 rcases zfn _ _ _ _ hf with rfl|hf
 ·exact hd
 ·exact h.len f hf
theorem ybe{l:List PF}{n:List UInt8}(h:Small l):Small (zda l n):=⟨h.wf.filter _,fun f hf=>h.len f (List.mem_filter.1 hf).1⟩
theorem ylw{t0:List PF}(l:List Nat):∀{x:XS},XInv t0 x→XInv t0 (l.foldl (fun x (n:Nat)=>x.act (n:Int)) x)∧(l.foldl (fun x (n:Nat)=>x.act (n:Int)) x).fr=x.fr:=by
 induction l with
 | nil=>intro x h;exact⟨h,rfl⟩
 | cons n l ih=>
  intro x h
  have a:=yh1 h (n:Int)
  obtain⟨i1,i2⟩:=ih a.inv
  exact⟨i1,i2.trans a.fr⟩
theorem zlk{fr tt:List PF}(hf:Small fr)(ht:Small tt)(l:List Nat):Small (SP.sent fr tt l)∧(SP.sent fr tt l).map PF.line=fr.map PF.line:=by
 obtain⟨s1,s2,s3,s4⟩:=zry hf ht
 obtain⟨a1,a2⟩:=ylw l s1
 have FL:=ygm zdh a1 (.inr (by have:=yfm a1;have:=zhb;omega))
 have hfr:=FL.2.2.1.trans (a2.trans s2)
 have hd:=(FL.2.1.done FL.1).1
 rw[hfr] at hd
 exact⟨FL.2.1.tt,hd⟩
theorem SInv.files{s:SP}(h:SInv s)(b:Bool):Small (s.files b):=by unfold SP.files;cases b<;>simp[h.fr,h.tt]
theorem SInv.setF{s:SP}(h:SInv s)(b:Bool){l:List PF}(hl:Small l):SInv (s.setF b l):=by
 unfold SP.setF
 cases b
 ·exact⟨h.fr,hl,h.tpb,h.tpc,h.gk⟩
 ·exact⟨hl,h.tt,h.tpb,h.tpc,h.gk⟩
theorem ypr(d:TP)(s:List UInt8)(h:d.b.length≤1048576):(apT d s).b.length≤1048576:=by
 unfold apT
 by_cases h1:20000<s.length
 ·rw[if_pos h1];exact h
 ·rw[if_neg h1]
  by_cases h2:1048576<d.b.length+(zc9 s).length
  ·rw[if_pos h2];exact h
  ·rw[if_neg h2]
   have:=yna d (zc9 s)
   omega
theorem yot(m:GM)(k:List UInt8)(v:Nat)(j:List UInt8):glk (zja m k v) j=if j=k then v else glk m j:=by
 induction m with
 | nil=>
  unfold zja glk glk
  by_cases h:k=j
  ·rw[if_pos h,if_pos h.symm]
  ·rw[if_neg h,if_neg (fun e=>h e.symm)]
 | cons p m ih=>
  unfold zja
  by_cases h:p.1=k
  ·rw[if_pos h]
   unfold glk
   by_cases h2:k=j
   ·rw[if_pos h2,if_pos h2.symm]
   ·rw[if_neg h2,if_neg (fun e=>h2 e.symm),if_neg (by rw[h];exact h2)]
  ·rw[if_neg h]
   unfold glk
   rw[ih]
   by_cases h2:p.1=j
   ·rw[if_pos h2,if_pos h2,if_neg (by rw[←h2];exact h)]
   ·rw[if_neg h2,if_neg h2]
theorem SInv.drop{s:SP}(h:SInv s)(a n:List UInt8):SInv (s.drop a n).1:=by
 unfold SP.drop
 cases zbx a with
 | none=>exact h
 | some b=>
  simp only[]
  split
  ·exact h.setF b (ybe (h.files b))
  ·exact h
theorem SInv.list{s:SP}(h:SInv s)(a:List UInt8):SInv (s.list a).1:=by
 unfold SP.list
 cases zbx a<;>exact h
theorem SInv.size{s:SP}(h:SInv s)(a n:List UInt8):SInv (s.size a n).1:=by
 unfold SP.size
 cases nmL 6 n with
 | none=>exact h
 | some z=>simp only[];split<;>exact h
theorem SInv.send{s:SP}(h:SInv s)(w:List (List UInt8)):SInv (s.send w).1:=by
 unfold SP.send
 cases SP.nums w with
 | none=>exact h
 | some l=>exact⟨h.fr,(zlk h.fr h.tt l).1,h.tpb,h.tpc,h.gk⟩
theorem SInv.opens{s:SP}(h:SInv s)(k:List UInt8):SInv (s.opens k).1:=by
 refine⟨h.fr,h.tt,h.tpb,h.tpc,fun j=>?_⟩
 show glk (opM s.gm k) j≤_
 have hj:=h.gk j
 have hk:=h.gk k
 by_cases h1:zhn s.gm k=0
 ·by_cases h2:2147483648≤glk s.gm k
  ·rw[(zso h1 h2).2.2];exact hj
  ·rw[(yep h1 h2).2.2,yot]
   split
   ·omega
   ·exact hj
 ·rw[(zsp h1).2.2];exact hj
theorem SInv.admits{s:SP}(h:SInv s)(k d:List UInt8):SInv (s.admits k d).1:=by
 unfold SP.admits
 cases nmL 6 d<;>exact h
theorem SInv.mark{s:SP}(h:SInv s)(n d:List UInt8):SInv (s.mark n d).1:=by
 unfold SP.mark
 cases nmL 6 d with
 | none=>exact h
 | some k=>
  cases zaq s.tt n with
  | none=>exact h
  | some x=>
   simp only[]
   split
   ·exact h
   ·split
    ·exact h
    ·exact⟨h.fr,h.tt,ypr _ _ h.tpb,yps _ _ h.tpc,h.gk⟩
theorem SInv.cut{s:SP}(h:SInv s)(d:List UInt8)(hd:∀n,nmL 6 d=some n→n≤1000000):SInv (s.cut d).1:=by
 unfold SP.cut
 cases e:nmL 6 d with
 | none=>exact h
 | some n=>
  have hn:=hd n e
  refine⟨h.fr,h.tt,?_,?_,h.gk⟩
  ·show(ctT s.tp n).b.length≤_
   unfold ctT
   split
   ·exact h.tpb
   ·split<;>exact h.tpb
  ·show -1≤(ctT s.tp n).cut∧(ctT s.tp n).cut≤_
   unfold ctT
   split
   ·exact h.tpc
   ·split
    ·exact h.tpc
    ·show -1≤(n:Int)∧(n:Int)≤_;omega
theorem SInv.again{s:SP}(h:SInv s):SInv s.again.1:=by
 refine⟨h.fr,h.tt,?_,?_,h.gk⟩
 ·show(rcT s.tp).b.length≤_
  have:=h.tpb
  unfold rcT
  simp only[List.length_take]
  omega
 ·show -1≤(rcT s.tp).cut∧(rcT s.tp).cut≤_
  unfold rcT
  simp only[]
  omega
theorem SInv.does{s:SP}(h:SInv s)(c:Cmd)(w:List (List UInt8))(hd:∀d∈w,∀n,nmL 6 d=some n→n≤1000000):SInv (s.does c w).1:=by
 have hs:s.does .send w=s.send w:=by
  rcases w with _|⟨a,_|⟨b,_|⟨c,w⟩⟩⟩<;>rfl
 rcases w with _|⟨a,_|⟨b,_|⟨d,w⟩⟩⟩<;>cases c
 all_goals first
  | exact h
  | (rw[hs];exact h.send _)
  | exact h.drop _ _
  | exact h.list _
  | exact h.size _ _
  | exact h.opens _
  | exact h.admits _ _
  | exact h.mark _ _
  | exact h.cut _ (hd _ (by simp))
  | exact h.again
theorem zql{s:SP}(h:SInv s)(line:List UInt8)(hl:line.length≤200)(hd:∀d n,nmL 6 d=some n→n≤1000000):SInv (s.play line).1:=by
 unfold SP.play
 by_cases hp:SP.wPut.isPrefixOf line=true
 ·rw[if_pos hp]
  unfold SP.put
  cases hs:zbx (zec 32 (line.drop 4)) with
  | none=>exact h
  | some b=>
   simp only[]
   split
   ·exact h
   ·split
    ·rename_i h1 h2
     exact h.setF b (ydv (h.files b) h2 (by
      have a:=zgg 32 (zcc 32 (line.drop 4))
      have b:=zgg 32 (line.drop 4)
      have c:(line.drop 4).length≤line.length:=by simp
      omega))
    ·exact h
 ·rw[if_neg hp]
  cases hc:zci ((zcn 32 line).headD []) with
  | none=>exact h
  | some c=>
   simp only[]
   split
   ·exact h.does c _ (fun d _=>hd d)
   ·exact h
theorem zpq:SInv SP.zero:=⟨⟨⟨by simp[SP.zero],by simp[SP.zero],List.Pairwise.nil⟩,by simp[SP.zero]⟩,⟨⟨by simp[SP.zero],by simp[SP.zero],List.Pairwise.nil⟩,by simp[SP.zero]⟩,by simp[SP.zero],by simp[SP.zero],fun k=>by simp[SP.zero,glk]⟩
namespace SP
def docDoes(s:SP)(c:Cmd)(w:List (List UInt8)):SP×An:=
 if c=.send then (match nums w with|none=>(s,[],1)|some _=>(s.setF false s.fr,zha,0)) else s.does c w
def docPlay(s:SP)(line:List UInt8):SP×An:=
 if wPut.isPrefixOf line then s.put (line.drop 4)
 else match zci ((zcn 32 line).headD []) with
  | none=>(s,[],1)
  | some c=>if c.words=none∨c.words=some ((zcn 32 line).length - 1) then s.docDoes c (zcn 32 line).tail else (s,[],1)
def docRun:SP→List (List UInt8)→List (List UInt8)
 | _,[]=>[]
 | s,l::r=>told (s.docPlay l).2::docRun (s.docPlay l).1 r
def unsure(line:List UInt8):Prop:=zci ((zcn 32 line).headD [])=some .size∨zci ((zcn 32 line).headD [])=some .mark∨zci ((zcn 32 line).headD [])=some .far
def isSend(line:List UInt8):Prop:=zci ((zcn 32 line).headD [])=some .send
def clean(big:List UInt8→Bool):Bool→List (List UInt8)→Prop
 | _,[]=>True
 | b,l::r=>(b=true→¬unsure l)∧clean big (b || big l) r
end SP
theorem zib{f g:PF}(h:f.line=g.line):f.n=g.n∧f.d.length=g.d.length:=by
 have h1:=congrArg PL.n h
 have h2:=congrArg PL.N h
 refine⟨h1,?_⟩
 have:((f.d.length:Nat):Int)=(g.d.length:Nat):=h2
 omega
theorem yj6{f g:PF}(h:f.line=g.line):f.chk=g.chk:=by
 obtain⟨h1,h2⟩:=zib h
 unfold PF.chk
 rw[h1,h2]
theorem zx0:∀{a b:List PF} (n:List UInt8),a.map PF.line=b.map PF.line→(zaq a n).isSome=(zaq b n).isSome
 | [],[],n,_=>rfl
 | [],g::b,n,h=>by simp at h
 | f::a,[],n,h=>by simp at h
 | f::a,g::b,n,h=>by
  simp only[List.map_cons,List.cons.injEq] at h
  have hn:=(zib h.1).1
  have ih:=zx0 n h.2
  unfold zaq at ih ⊢
  simp only[List.find?_cons,hn]
  cases g.n==n
  ·exact ih
  ·rfl
theorem zs2:∀{a b:List PF} (n:List UInt8),a.map PF.line=b.map PF.line→(zda a n).map PF.line=(zda b n).map PF.line
 | [],[],n,_=>rfl
 | [],g::b,n,h=>by simp at h
 | f::a,[],n,h=>by simp at h
 | f::a,g::b,n,h=>by
  simp only[List.map_cons,List.cons.injEq] at h
  have hn:=(zib h.1).1
  have ih:=zs2 n h.2
  unfold zda at ih ⊢
  simp only[List.filter_cons,hn]
  cases g.n != n
  ·exact ih
  ·simp only[if_true,List.map_cons,h.1,ih]
theorem zqw:∀{a b:List PF} (n d:List UInt8),a.map PF.line=b.map PF.line→(zal a n d).map PF.line=(zal b n d).map PF.line
 | [],[],n,d,_=>rfl
 | [],g::b,n,d,h=>by simp at h
 | f::a,[],n,d,h=>by simp at h
 | f::a,g::b,n,d,h=>by
  simp only[List.map_cons,List.cons.injEq] at h
  have hn:=(zib h.1).1
  have ih:=zqw n d h.2
  unfold zal
  rw[hn]
  by_cases h1:g.n=n
  ·simp only[if_pos h1,List.map_cons,h.2]
  ·simp only[if_neg h1]
   by_cases h2:ltL n g.n=true
   ·simp only[if_pos h2,List.map_cons,h.1,h.2]
   ·simp only[if_neg h2,List.map_cons,h.1,ih]
theorem zx1:∀{a b:List PF},a.map PF.line=b.map PF.line→a.map PF.chk=b.map PF.chk
 | [],[],_=>rfl
 | [],g::b,h=>by simp at h
 | f::a,[],h=>by simp at h
 | f::a,g::b,h=>by
  simp only[List.map_cons,List.cons.injEq] at h
  simp only[List.map_cons,yj6 h.1,zx1 h.2]
theorem zo2{a b:List PF}(h:a.map PF.line=b.map PF.line):zav a=zav b:=by unfold zav;rw[zx1 h]
theorem yfl{a b:List PF}(n d:List UInt8)(h:a.map PF.line=b.map PF.line):putF a n d=putF b n d:=by unfold putF;rw[zo2 h,zo2 (zqw n d h)]
structure Like(s d:SP):Prop where
 fr:s.fr=d.fr
 gm:s.gm=d.gm
 tp:s.tp=d.tp
 ln:s.tt.map PF.line=d.tt.map PF.line
theorem Like.refl(s:SP):Like s s:=⟨rfl,rfl,rfl,rfl⟩
section
variable{s d:SP}
theorem Like.files(h:Like s d)(b:Bool):(s.files b).map PF.line=(d.files b).map PF.line:=by
 cases b
 ·exact h.ln
 ·show s.fr.map _=d.fr.map _
  rw[h.fr]
theorem Like.setF(h:Like s d){b:Bool}{l m:List PF}(e:l.map PF.line=m.map PF.line)(e2:b=true→l=m):Like (s.setF b l) (d.setF b m):=by
 cases b
 ·exact⟨h.fr,h.gm,h.tp,e⟩
 ·exact⟨e2 rfl,h.gm,h.tp,h.ln⟩
theorem Like.put(h:Like s d)(r:List UInt8):(s.put r).2=(d.put r).2∧Like (s.put r).1 (d.put r).1:=by
 unfold SP.put
 cases hs:zbx (zec 32 r) with
 | none=>exact⟨rfl,h⟩
 | some b=>
  simp only[]
  by_cases h1:(zdu 32 r).isSome=false∨(zdu 32 (zcc 32 r)).isSome=false
  ·rw[if_pos h1,if_pos h1];exact⟨rfl,h⟩
  ·rw[if_neg h1,if_neg h1,yfl _ _ (h.files b)]
   by_cases h2:(putF (d.files b) (zec 32 (zcc 32 r)) (zcc 32 (zcc 32 r))).1=0
   ·rw[if_pos h2,if_pos h2]
    exact⟨rfl,h.setF (zqw _ _ (h.files b)) (fun e=>by subst e;show zal s.fr _ _=zal d.fr _ _;rw[h.fr])⟩
   ·rw[if_neg h2,if_neg h2];exact⟨rfl,h⟩
theorem Like.drop(h:Like s d)(a n:List UInt8):(s.drop a n).2=(d.drop a n).2∧Like (s.drop a n).1 (d.drop a n).1:=by
 unfold SP.drop
 cases hs:zbx a with
 | none=>exact⟨rfl,h⟩
 | some b=>
  simp only[]
  rw[zx0 n (h.files b)]
  split
  ·exact⟨rfl,h.setF (zs2 _ (h.files b)) (fun e=>by subst e;show zda s.fr _=zda d.fr _;rw[h.fr])⟩
  ·exact⟨rfl,h⟩
theorem Like.list(h:Like s d)(a:List UInt8):(s.list a).2=(d.list a).2∧Like (s.list a).1 (d.list a).1:=by
 unfold SP.list
 cases hs:zbx a with
 | none=>exact⟨rfl,h⟩
 | some b=>
  have e:∀l:List PF,(l.map fun f=>SP.lineT f.line)=(l.map PF.line).map SP.lineT:=fun l=>by rw[List.map_map];rfl
  simp only[e,h.files b]
  exact⟨trivial,h⟩
theorem Like.plan(h:Like s d):(s.plan).2=(d.plan).2∧Like (s.plan).1 (d.plan).1:=by
 unfold SP.plan
 exact⟨by simp only[h.ln,h.fr],h⟩
theorem Like.opens(h:Like s d)(k:List UInt8):(s.opens k).2=(d.opens k).2∧Like (s.opens k).1 (d.opens k).1:=by
 unfold SP.opens
 rw[h.gm]
 exact⟨rfl,h.fr,rfl,h.tp,h.ln⟩
theorem Like.admits(h:Like s d)(k x:List UInt8):(s.admits k x).2=(d.admits k x).2∧Like (s.admits k x).1 (d.admits k x).1:=by
 unfold SP.admits
 cases nmL 6 x with
 | none=>exact⟨rfl,h⟩
 | some n=>simp only[];rw[h.gm];exact⟨rfl,h⟩
theorem Like.cut(h:Like s d)(x:List UInt8):(s.cut x).2=(d.cut x).2∧Like (s.cut x).1 (d.cut x).1:=by
 unfold SP.cut
 cases nmL 6 x with
 | none=>exact⟨rfl,h⟩
 | some n=>simp only[];rw[h.tp];exact⟨rfl,h.fr,h.gm,rfl,h.ln⟩
theorem Like.again(h:Like s d):(s.again).2=(d.again).2∧Like (s.again).1 (d.again).1:=by
 unfold SP.again
 rw[h.tp]
 exact⟨rfl,h.fr,h.gm,rfl,h.ln⟩
theorem Like.send(h:Like s d)(hs:SInv s)(w:List (List UInt8)):(s.does .send w).2=(d.docDoes .send w).2∧Like (s.does .send w).1 (d.docDoes .send w).1:=by
 have e:s.does .send w=s.send w:=by unfold SP.does;rfl
 rw[e]
 unfold SP.send SP.docDoes
 rw[if_pos rfl]
 cases SP.nums w with
 | none=>exact⟨rfl,h⟩
 | some l=>
  refine⟨rfl,h.fr,h.gm,h.tp,?_⟩
  show(SP.sent s.fr s.tt l).map PF.line=d.fr.map PF.line
  rw[(zlk hs.fr hs.tt l).2,h.fr]
theorem Like.does(h:Like s d)(hs:SInv s)(c:Cmd)(w:List (List UInt8))(hc:c≠.size∧c≠.mark∧c≠.far):(s.does c w).2=(d.docDoes c w).2∧Like (s.does c w).1 (d.docDoes c w).1:=by
 by_cases he:c=.send
 ·subst he;exact h.send hs w
 ·unfold SP.docDoes
  rw[if_neg he]
  unfold SP.does
  split
  ·exact h.drop _ _
  ·exact h.list _
  ·exact h.plan
  ·exact absurd rfl hc.1
  ·exact absurd rfl he
  ·exact h.opens _
  ·exact h.admits _ _
  ·exact absurd rfl hc.2.1
  ·exact absurd rfl hc.2.2
  ·exact h.cut _
  ·exact h.again
  ·exact⟨rfl,h⟩
theorem Like.play(h:Like s d)(hs:SInv s)(line:List UInt8)(hu:¬SP.unsure line):(s.play line).2=(d.docPlay line).2∧Like (s.play line).1 (d.docPlay line).1:=by
 unfold SP.play SP.docPlay
 by_cases hp:SP.wPut.isPrefixOf line=true
 ·rw[if_pos hp,if_pos hp];exact h.put _
 ·rw[if_neg hp,if_neg hp]
  unfold SP.unsure at hu
  cases hc:zci ((zcn 32 line).headD []) with
  | none=>exact⟨rfl,h⟩
  | some c=>
   simp only[]
   rw[hc] at hu
   split
   ·exact h.does hs c _ ⟨fun e=>hu (.inl (by rw[e])),fun e=>hu (.inr (.inl (by rw[e]))),fun e=>hu (.inr (.inr (by rw[e])))⟩
   ·exact⟨rfl,h⟩
theorem yk5(s:SP)(hs:SInv s)(line:List UInt8):(s.play line).2=(s.docPlay line).2∧Like (s.play line).1 (s.docPlay line).1∧(¬SP.isSend line→s.play line=s.docPlay line):=by
 unfold SP.play SP.docPlay SP.isSend
 by_cases hp:SP.wPut.isPrefixOf line=true
 ·simp only[if_pos hp];exact⟨trivial,Like.refl _,fun _=>trivial⟩
 ·simp only[if_neg hp]
  cases hc:zci ((zcn 32 line).headD []) with
  | none=>exact⟨rfl,Like.refl _,fun _=>rfl⟩
  | some c=>
   simp only[]
   split
   ·by_cases he:c=.send
    ·subst he
     have:=(Like.refl s).send hs (zcn 32 line).tail
     exact⟨this.1,this.2,fun h=>absurd rfl h⟩
    ·have e:s.docDoes c (zcn 32 line).tail=s.does c (zcn 32 line).tail:=by unfold SP.docDoes;rw[if_neg he]
     rw[e]
     exact⟨rfl,Like.refl _,fun _=>rfl⟩
   ·exact⟨rfl,Like.refl _,fun _=>rfl⟩
theorem yg4(big:List UInt8→Bool)(hb:∀l,SP.isSend l→big l=true)(hd:∀x n,nmL 6 x=some n→n≤1000000):∀(ls:List (List UInt8))(s d:SP)(b:Bool),(∀l∈ls,l.length≤200)→SInv s→Like s d→(b=false→s=d)→SP.clean big b ls→s.run ls=d.docRun ls
 | [],s,d,b,_,_,_,_,_=>rfl
 | l::ls,s,d,b,hl,hs,h,he,hc=>by
  have hs':SInv (s.play l).1:=zql hs l (hl l (List.mem_cons_self ..)) hd
  have key:(s.play l).2=(d.docPlay l).2∧Like (s.play l).1 (d.docPlay l).1∧((b || big l)=false→(s.play l).1=(d.docPlay l).1):=by
   cases b with
   | true=>
    have:=h.play hs l (hc.1 rfl)
    exact⟨this.1,this.2,fun e=>by simp at e⟩
   | false=>
    obtain rfl:=he rfl
    obtain⟨k1,k2,k3⟩:=yk5 s hs l
    refine⟨k1,k2,fun e=>?_⟩
    rw[k3 (fun hq=>by rw[hb l hq] at e;simp at e)]
  have ih:=yg4 big hb hd ls _ _ (b || big l) (fun x hx=>hl x (List.mem_cons_of_mem _ hx)) hs' key.2.1 key.2.2 hc.2
  show SP.told (s.play l).2::_=SP.told (d.docPlay l).2::_
  rw[key.1,ih]
end
theorem zx6{m:GM}{k:List UInt8}(h:k∉m.map Prod.fst):glk m k=0:=by
 induction m with
 | nil=>rfl
 | cons q x ih=>
  rw[List.map_cons,List.mem_cons,not_or] at h
  unfold glk
  rw[if_neg (fun e=>h.1 e.symm)]
  exact ih h.2
theorem ygn{l:GM}{k:List UInt8}(h:k∈l.map Prod.fst):(l.filter fun p=>p.1 != k).length<l.length:=by
 obtain⟨p,hp,rfl⟩:=List.mem_map.1 h
 refine Nat.lt_of_le_of_ne (List.length_filter_le _ _) fun e=>?_
 have:=List.length_filter_eq_length_iff.1 e p hp
 simp at this
theorem GWF.set{m l:GM}(h:GWF l)(hp:m.Perm l){k:List UInt8}{v:Nat}(hk:zhn m k=0)(hv:1≤v)(hv2:v≤2147483648):GWF (zid l k v):=by
 have hnm:zbc k=true:=by
  cases hn:zbc k with
  | true=>rfl
  | false=>rw[zm5 hn] at hk;cases hk
 refine⟨ykh h.srt k v,fun p hp=>?_,fun p hp=>?_,?_⟩
 ·rcases zqz hp with rfl|hp
  ·exact hnm
  ·exact h.nm p hp
 ·rcases zqz hp with rfl|hp
  ·exact⟨hv,hv2⟩
  ·exact h.ep p hp
 ·rw[(zs9 h.srt k v).length_eq,List.length_cons]
  have hf:=h.few
  by_cases hm:k∈l.map Prod.fst
  ·have:=ygn hm
   omega
  ·have h1:glk m k=0:=by
    refine zx6 fun hm2=>hm ?_
    exact(hp.map Prod.fst).mem_iff.1 hm2
   have h2:¬(glk m k=0∧20≤m.length):=fun h3=>by rw[zm6 hnm h3] at hk;cases hk
   have h3:=hp.length_eq
   have:=List.length_filter_le (fun p=>p.1 != k) l
   omega
theorem yeo{m l:GM}(h:GWF l)(hp:m.Perm l){k:List UInt8}(hk:zhk m k=0):opN m k=glk m k+1∧opM m k=zja m k (glk m k+1)∧(opM m k).Perm (zid l k (glk m k+1))∧GWF (zid l k (glk m k+1))∧glk (zid l k (glk m k+1)) k=glk m k+1:=by
 have hm:zhn m k=0:=by
  by_cases h0:zhn m k=0
  ·exact h0
  ·rw[(zsp h0).1] at hk;exact absurd hk h0
 have hl:¬2147483648≤glk m k:=fun h1=>by rw[(zso hm h1).1] at hk;cases hk
 obtain⟨_,e2,e3⟩:=yep hm hl
 have hpp:=yio hp h.srt k (glk m k+1)
 have hw:=h.set hp (v:=glk m k+1) hm (by omega) (by omega)
 refine⟨e2,e3,by rw[e3];exact hpp,hw,?_⟩
 rw[←zgy hpp hw.srt.nodup,zq1]
theorem yn2{m:GM}{k:List UInt8}(hk:zhk m k≠0):opM m k=m:=by
 by_cases hm:zhn m k=0
 ·by_cases hl:2147483648≤glk m k
  ·exact(zso hm hl).2.2
  ·exact absurd (yep hm hl).1 hk
 ·exact(zsp hm).2.2
section
def tk0(p:List UInt8×Nat):Value:=.string (bs p.1)
def tk1(p:List UInt8×Nat):Value:=.int .i64 (p.2:Nat)
def tkc(l:GM):List Value:=zip tk0 tk1 l
theorem zpx(l:GM)(k:Nat)(h:k<l.length):(tkc l)[k * 2]?=some (.string (bs l[k].1))∧(tkc l)[k * 2+1]?=some (.int .i64 (l[k].2:Nat)):=zgs _ _ l k h
theorem ze6(l m:GM):tkc (l++m)=tkc l++tkc m:=zgt _ _ l m
structure RgAt(w:World)(rb:Nat)(l:GM)(v:Value):Prop where
 cells:w.heap[rb]?=some (.cells #[v] 29 (0,0))
 own:w.ownsRow (rb+1) 159 2 v l.length (tkc l)
theorem RgAt.lt{w:World}{rb:Nat}{l:GM}{v:Value}(h:RgAt w rb l v):rb<w.heap.size:=lt_of_block h.cells
theorem RgAt.c0{w:World}{rb:Nat}{l:GM}{v:Value}(h:RgAt w rb l v):w.cell? ⟨rb,0,none⟩=some v:=by simp[World.cell?,h.cells]
theorem RgAt.fz{w:World}{rb:Nat}{l:GM}{v:Value}(h:RgAt w rb l v):w.frozen? ⟨rb,0,none⟩=false:=by simp[World.frozen?,h.cells]
theorem RgAt.below{w w':World}{rb:Nat}{l:GM}{v:Value}(h:RgAt w rb l v)(hb:Below w.heap.size w w'):RgAt w' rb l v:=⟨(hb.block rb h.lt).trans h.cells,zad h.own hb⟩
theorem RgAt.new{w:World}:RgAt (w.alloc (.cells #[.slice none 0 0] 29)) w.heap.size [] (.slice none 0 0):=⟨heap_alloc_new _ _,World.ownsRow_nil _ _ _ _⟩
theorem RgAt.kept{w w':World}{rb:Nat}{l:GM}{v:Value}{S:Nat→Prop}(h:RgAt w rb l v)(hc:Chg w w' S)(h1:¬S rb)(h2:∀x,v.ownBlock=some x→¬S x):RgAt w' rb l v:=
 ⟨(hc.block rb h.lt h1).trans h.cells,zan h.own hc h2⟩
theorem RgAt.slice{w:World}{rb:Nat}{l:GM}{v:Value}(h:RgAt w rb l v):∃a c,v=.slice a l.length c:=zab h.own
theorem yra:(Tryz.prog.info? 159).map (fun i=>(i.zero,i.size,i.bytes))=some (some (.agg #[.string ⟨#[]⟩,.int .i64 0]),2,24):=by kernel_rfl
theorem zp6{P:Program}(t:TypeId)(a b:List UInt8)(w:World):(binOp .geq t (.string (bs a)) (.string (bs b))).run P w=.ok (.bool (!ltL a b)) w:=by
 simp only[binOp,Op.stringOp,za4]
 rfl
theorem zd2{w:World}{b:Nat}{x y:Value}(h:w.heap[b]?=some (.cells #[x,y] 159 (0,0))):SliceIs w (.slice (some ⟨b,0,none⟩) 1 1) 2 [x,y]:=
 .inr ⟨⟨b,0,none⟩,1,1,rfl,Nat.le_refl _,by unfold maxLen;omega,rfl,fun i u hi=>by
  match i,hi with
  | 0,hi=>simp at hi;subst hi;simp[World.cell?,h,Addr.add]
  | 1,hi=>simp at hi;subst hi;simp[World.cell?,h,Addr.add]⟩
def ym2(l:GM)(k:List UInt8)(r:Int):Prop:=(r=-1∧k∉l.map Prod.fst)∨∃j,∃h:j<l.length,r=(j:Nat)∧(l[j]'h).1=k∧glk l k=(l[j]'h).2
theorem ykm{l:GM}{k:List UInt8}{j:Nat}(h:j<l.length)(hne:∀i (hi:i<j),(l[i]'(by omega)).1≠k)(e:(l[j]'h).1=k):glk l k=(l[j]'h).2:=by
 induction l generalizing j with
 | nil=>simp at h
 | cons p l ih=>
  unfold glk
  cases j with
  | zero=>rw[if_pos (by simpa using e)];rfl
  | succ j=>
   rw[if_neg (by simpa using hne 0 (by omega))]
   exact ih (j:=j) (by simpa using h) (fun i hi=>by simpa using hne (i+1) (by omega)) (by simpa using e)
section
variable{w:World}{rb:Nat}{l:GM}{v:Value}
theorem zoj(k:List UInt8)(h:RgAt w rb l v)(hl:l.length≤1000000):
  Calls Tryz.prog 84 #[.pointer (some ⟨rb,0,none⟩),.string (bs k)] w fun e w'=>∃r:Int,e=.returned (.int .i64 r)∧ym2 l k r∧w=w':=by
 have c0:=h.c0
 obtain⟨va,vc,rfl⟩:=h.slice
 have hg:=hid (SliceIs.ownedK h.own)
 clear h
 go_enter Tryz.func84,Tryz.ntmps84
 go_wp2_with fail
 go_loopw [5] (fun i wr=>∃j:Nat,i=.int .i64 j∧j≤l.length∧(∀(i:Nat)(hi:i<j)(hj:i<l.length),(l[i]'hj).1≠k)∧wr=w) (fun i _=>l.length - (intOf i).toNat)
 case atStart=>exact⟨0,rfl,by omega,fun i hi=>by omega,rfl⟩
 case round=>
  obtain⟨j,rfl,hj,hne,rfl⟩:=hrel
  by_cases hlt:j<l.length
  ·have hltI:(j:Int)<l.length:=by omega
   obtain⟨s0',n0',c0',e1,_,_,_,g1⟩:=hg.out.get
   cases e1
   obtain⟨g2,g3⟩:=zpx l j hlt
   obtain⟨ad,rfl,d0⟩:=g1 _ _ g2
   clear g1 g2 g3
   have x1:(0:Int)≤j:=by omega
   have x2:(j:Int).toNat=j:=by omega
   have HNE:=hid hne
   by_cases hk:(l[j]'hlt).1=k
   ·have HK:=hid hk
    have hb:((bs (l[j]'hlt).1).toList==(bs k).toList)=true:=by rw[za4,za4];simpa using hk
    clear hk hne
    go_wp2_with fail
    go_ret
    exact⟨_,rfl,.inr ⟨j,hlt,rfl,HK.out,ykm hlt (fun i hi=>HNE.out i hi (by omega)) HK.out⟩,rfl⟩
   ·have HK:=hid hk
    have hb:((bs (l[j]'hlt).1).toList==(bs k).toList)=false:=by rw[za4,za4];simpa using hk
    clear hk hne
    go_wp2_with fail
    go_roundw
    case rel=>
     refine⟨j+1,by go_num,by omega,fun i hi hjl=>?_,trivial⟩
     by_cases e:i=j
     ·subst e;exact HK.out
     ·exact HNE.out i (by omega) hjl
    case measure=>simp[intOf];omega
  ·have hltI:¬(j:Int)<l.length:=by omega
   have HNE:=hid hne
   clear hne
   go_wp2_with fail
   go_ret
   refine⟨_,rfl,.inl ⟨rfl,fun hm=>?_⟩,rfl⟩
   obtain⟨p,hp,e⟩:=List.mem_map.1 hm
   obtain⟨i,hi,rfl⟩:=List.mem_iff_getElem.1 hp
   exact HNE.out i (by omega) hi e
theorem ykt{r:Int}{k:List UInt8}(h:ym2 l k r)(hw:GWF l):(r<0↔glk l k=0):=by
 rcases h with⟨rfl,hn⟩|⟨j,hj,rfl,e,g⟩
 ·exact⟨fun _=>zx6 hn,fun _=>by omega⟩
 ·have:=(hw.ep _ (List.getElem_mem hj)).1
  constructor
  ·intro h;omega
  ·intro h;omega
theorem zoi(k:List UInt8)(h:RgAt w rb l v)(hl:l.length≤1000000):
  Calls Tryz.prog 54 #[.pointer (some ⟨rb,0,none⟩),.string (bs k)] w fun e w'=>e=.returned (.int .i64 (glk l k:Nat))∧w=w':=by
 have FD:=hid (zoj k h hl)
 have c0:=h.c0
 obtain⟨va,vc,rfl⟩:=h.slice
 have hg:=hid (SliceIs.ownedK h.own)
 clear h
 go_enter Tryz.func54,Tryz.ntmps54
 go_wp2_with fail
 refine FD.out.mono ?_
 rintro e w1⟨r,rfl,hr,rfl⟩
 clear FD
 rcases hr with⟨rfl,hn⟩|⟨j,hj,rfl,e,g⟩
 ·have GZ:=hid (zx6 hn)
  clear hn
  go_wp2_with fail
  go_ret
  exact⟨by rw[GZ.out];rfl,rfl⟩
 ·have GZ:=hid g
  obtain⟨s0',n0',c0',e1,_,_,_,g1⟩:=hg.out.get
  cases e1
  obtain⟨g2,g3⟩:=zpx l j hj
  obtain⟨ad,rfl,d1⟩:=g1 _ _ g3
  have d1:=zao d1
  have x1:(0:Int)≤j:=by omega
  have x2:(j:Int).toNat=j:=by omega
  have x3:(j:Int)<l.length:=by omega
  have x4:¬(j:Int)<0:=by omega
  clear g1 g2 g3 e g
  go_wp2_with fail
  go_ret
  exact⟨by rw[GZ.out];rfl,rfl⟩
theorem yda(k:List UInt8)(h:RgAt w rb l v)(hw:GWF l)(hk:k.length≤1000000000):
  Calls Tryz.prog 53 #[.pointer (some ⟨rb,0,none⟩),.string (bs k)] w fun e w'=>e=.returned (.int .i64 (zhn l k:Nat))∧w=w':=by
 have hfew:=hw.few
 have FD:=hid (zoj k h (by omega))
 have NM:=hid (zx2 (bs k) w (by rw[zae];exact hk))
 rw[zai] at NM
 have c0:=h.c0
 have HW:=hid hw
 obtain⟨va,vc,rfl⟩:=h.slice
 clear h hw
 by_cases hnm:zbc k=true
 ·rw[hnm] at NM
  go_enter Tryz.func53,Tryz.ntmps53
  go_wp2_with fail
  refine NM.out.mono ?_
  rintro e w1⟨rfl,rfl⟩
  go_wp2_with fail
  refine FD.out.mono ?_
  rintro e w1⟨r,rfl,hr,rfl⟩
  have hz:=ykt hr HW.out
  clear NM FD hr
  by_cases hf:glk l k=0
  ·have hrI:r<0:=hz.2 hf
   by_cases h20:20≤l.length
   ·have hI:(20:Int)≤l.length:=by omega
    have MC:=hid (zm6 hnm ⟨hf,h20⟩)
    clear hf hz hnm h20
    go_wp2_with fail
    go_ret
    exact⟨by rw[MC.out];rfl,rfl⟩
   ·have hI:¬(20:Int)≤l.length:=by omega
    have MC:=hid (zqu hnm (fun h=>h20 h.2))
    clear hf hz hnm h20
    go_wp2_with fail
    go_ret
    exact⟨by rw[MC.out];rfl,rfl⟩
  ·have hrI:¬r<0:=fun h=>hf (hz.1 h)
   have MC:=hid (zqu hnm (fun h=>hf h.1))
   clear hf hz hnm
   go_wp2_with fail
   go_ret
   exact⟨by rw[MC.out];rfl,rfl⟩
 ·have hnm':zbc k=false:=by simpa using hnm
  rw[hnm'] at NM
  rw[zm5 hnm']
  clear FD hnm hnm'
  go_enter Tryz.func53,Tryz.ntmps53
  go_wp2_with fail
  refine NM.out.mono ?_
  rintro e w1⟨rfl,rfl⟩
  go_wp2_with fail
  go_ret
  exact⟨rfl,rfl⟩
theorem zuy(k:List UInt8)(x:Int)(h:RgAt w rb l v)(hl:l.length≤1000000):
  Calls Tryz.prog 37 #[.pointer (some ⟨rb,0,none⟩),.string (bs k),.int .i64 x] w fun e w'=>e=.returned (.int .i64 (adC l k x:Nat))∧w=w':=by
 have LS:=hid (zoi k h hl)
 clear h
 by_cases h0:glk l k=0
 ·rw[yhz h0]
  have hz:(((glk l k:Nat):Int)==0)=true:=by rw[beq_iff_eq];omega
  clear h0
  generalize glk l k=z at *
  go_enter Tryz.func37,Tryz.ntmps37
  go_wp2_with fail
  refine LS.out.mono ?_
  rintro e w1⟨rfl,rfl⟩
  go_wp2_with fail
  go_ret
  exact⟨rfl,rfl⟩
 ·have hz:(((glk l k:Nat):Int)==0)=false:=by rw[beq_eq_false_iff_ne];omega
  by_cases hx:(glk l k:Int)=x
  ·rw[yry h0 hx]
   have hq:(((glk l k:Nat):Int) != x)=false:=by rw[bne_eq_false_iff_eq];exact hx
   clear h0 hx
   generalize glk l k=z at *
   go_enter Tryz.func37,Tryz.ntmps37
   go_wp2_with fail
   refine LS.out.mono ?_
   rintro e w1⟨rfl,rfl⟩
   go_wp2_with fail
   go_ret
   exact⟨rfl,rfl⟩
  ·rw[zy3 h0 hx]
   have hq:(((glk l k:Nat):Int) != x)=true:=by rw[bne_iff_ne];exact hx
   clear h0 hx
   generalize glk l k=z at *
   go_enter Tryz.func37,Tryz.ntmps37
   go_wp2_with fail
   refine LS.out.mono ?_
   rintro e w1⟨rfl,rfl⟩
   go_wp2_with fail
   go_ret
   exact⟨rfl,rfl⟩
end
def zr3(b:Bool)(l:GM)(k:List UInt8)(z:Nat):GM:=if b then l else zid l k z
theorem zr1(l:GM)(k:List UInt8)(z:Nat):zr3 true l k z=l:=rfl
theorem zr2(l:GM)(k:List UInt8)(z:Nat):zr3 false l k z=zid l k z:=rfl
theorem yip{l:GM}{k:List UInt8}{z j:Nat}(h:j<l.length):zr3 true (l.drop j) k z=[l[j]]++zr3 true (l.drop (j+1)) k z:=by
 rw[zr1,zr1,List.drop_eq_getElem_cons h];rfl
theorem ynn{l:GM}{k:List UInt8}{z j:Nat}(h:j<l.length)(e:l[j].1=k):zr3 false (l.drop j) k z=[(k,z)]++zr3 true (l.drop (j+1)) k z:=by
 rw[zr2,zr1,List.drop_eq_getElem_cons h,zid,e,zbv];simp
theorem ynm{l:GM}{k:List UInt8}{z j:Nat}(h:j<l.length)(e:ltL k l[j].1=true):zr3 false (l.drop j) k z=[(k,z)]++([l[j]]++zr3 true (l.drop (j+1)) k z):=by
 rw[zr2,zr1,List.drop_eq_getElem_cons h,zid,zco e,if_neg (by simp),if_neg (fun h=>zbm e h.symm)];rfl
theorem ynl{l:GM}{k:List UInt8}{z j:Nat}(h:j<l.length)(e:ltL l[j].1 k=true):zr3 false (l.drop j) k z=[l[j]]++zr3 false (l.drop (j+1)) k z:=by
 rw[zr2,zr2,List.drop_eq_getElem_cons h,zid,if_pos e];rfl
theorem zzh{l:GM}(k:List UInt8)(z:Nat):zr3 true (l.drop l.length) k z=[]:=by rw[zr1,List.drop_length]
theorem zzi{l:GM}(k:List UInt8)(z:Nat):zr3 false (l.drop l.length) k z=[(k,z)]:=by rw[zr2,List.drop_length];rfl
theorem yki(l:GM)(k:List UInt8)(z:Nat):(zid l k z).length≤l.length+1:=by
 induction l with
 | nil=>simp[zid]
 | cons p l ih=>
  unfold zid
  split
  ·simp only[List.length_cons];omega
  ·split<;>simp only[List.length_cons]<;>omega
theorem yp3{w0 w w':World}{o:Obj}{base:Nat}{v:Value}{n:Nat}{xs:List Value}(h:w.ownsRow base 159 2 v n xs)(hb:w0.heap.size≤base)(c:Below w0.heap.size w0 w)(hs:w0.heap.size≤w.heap.size)(hg:(w.alloc o).grownBy w' v.ownBlock):Below w0.heap.size w0 w':=
 (c.alloc hs o).grown hg (by simp;omega) (fun j hj=>by have:=(h.lt j hj).1;omega)
theorem zpy{w w':World}{l:GM}{ad:Addr}{m c i:Nat}{u:Value}(h:SliceIs w (.slice (some ad) m c) 2 (tkc l))(b:Below w.heap.size w w')(hu:(tkc l)[i]?=some u):w'.cell? (ad.add i)=some u:=by
 obtain⟨s',n',c',e1,_,_,_,g1⟩:=(h.below b).get
 cases e1
 obtain⟨a,e,d⟩:=g1 _ _ hu
 cases e
 exact d
theorem zw1{w w':World}{rb:Nat}{l D L:GM}{v v':Value}(h:RgAt w rb l v)(b:Below w.heap.size w w')(ho:w'.ownsRow w.heap.size 159 2 v' D.length (tkc D))(hlt:rb<w.heap.size)(e:D=L):
  (∃v2,RgAt (w'.setCell ⟨rb,0,none⟩ v') rb L v2)∧Chg w (w'.setCell ⟨rb,0,none⟩ v') (fun x=>x=rb):=by
 subst e
 have hc:w'.heap[rb]?=some (.cells #[v] 29 (0,0)):=(b.block rb hlt).trans h.cells
 have ho2:(w'.setCell ⟨rb,0,none⟩ v').ownsRow w.heap.size 159 2 v' D.length (tkc D):=ownsRow_setCell_other ho (a:=⟨rb,0,none⟩) (fun e=>by have:=(ho.lt rb e).1;omega) v'
 exact⟨⟨v',za2 hc,za1 ho2 (by omega)⟩,(Chg.of_below b (fun x=>x=rb)).set ⟨rb,0,none⟩ (.inl rfl) v'⟩
attribute [local irreducible] zid glk
section
variable{w:World}{rb:Nat}{l:GM}{v:Value}
theorem yc9(k:List UInt8)(z:Nat)(h:RgAt w rb l v)(hl:l.length≤1000000):
  Calls Tryz.prog 55 #[.pointer (some ⟨rb,0,none⟩),.string (bs k),.int .i64 z] w fun e w'=>e=.returned (.tuple #[])∧(∃v',RgAt w' rb (zid l k z) v')∧Chg w w' (fun x=>x=rb):=by
 obtain⟨i0,hi,hs0,hs1,hs2⟩:=info_parts yra
 have HR:=hid h
 have HLEN:=hid (yki l k z)
 have HLT:=hid h.lt
 obtain⟨va0,vc0,rfl⟩:=h.slice
 have hg:=hid (SliceIs.ownedK h.own)
 clear h
 go_enter Tryz.func55,Tryz.ntmps55
 go_wp2_with fail
 go_loopw [6,7,8] (fun o dn i wr=>∃(j:Nat)(D:GM)(b:Bool),i=.int .i64 j∧j≤l.length∧dn=.bool b∧D++zr3 b (l.drop j) k z=zid l k z∧wr.ownsRow w.heap.size 159 2 o D.length (tkc D)∧Below w.heap.size w wr) (fun _ _ i _=>l.length - (intOf i).toNat)
 case atStart=>exact⟨0,[],false,rfl,by omega,rfl,rfl,World.ownsRow_nil _ _ _ _,Below.refl _ _⟩
 case round=>
  obtain⟨j,D,b,rfl,hj,rfl,hinv,hown,bel⟩:=hrel
  have BW:=hid bel
  have HO:=hid hown
  have HI:=hid hinv
  have hDl:D.length≤l.length+1:=by have:=congrArg List.length hinv;rw[List.length_append] at this;have:=HLEN.out;omega
  have HSG:=hid bel.size
  have c0:=(HR.out.below bel).c0
  clear hown bel hinv
  obtain⟨va,vc,rfl⟩:=zab HO.out
  by_cases hlt:j<l.length
  ·have hltI:(j:Int)<l.length:=by omega
   obtain⟨s0',n0',c0',e1,_,_,_,g1⟩:=(hg.out.below BW.out).get
   cases e1
   obtain⟨g2,g3⟩:=zpx l j hlt
   obtain⟨ad,rfl,d0⟩:=g1 _ _ g2
   obtain⟨a',e',d1⟩:=g1 _ _ g3
   cases e'
   clear g1 g2 g3
   have x1:(0:Int)≤j:=by omega
   have x2:(j:Int).toNat=j:=by omega
   have KK:=hid (show j+1≤l.length from hlt)
   have P0:=hid (yip (k:=k) (z:=z) hlt)
   have P1:=hid (fun e=>ynn (k:=k) (z:=z) hlt e)
   have P2:=hid (fun e=>ynm (k:=k) (z:=z) hlt e)
   have P3:=hid (fun e=>ynl (k:=k) (z:=z) hlt e)
   have GG:=hid (zpx l j hlt)
   generalize l[j]'hlt=x at d0 d1 GG P0 P1 P2 P3
   have d1:=zao d1
   have HN1:Hid (D.length+1≤maxLen):=by show _≤_;unfold maxLen;omega
   have HN2:Hid ((D.length+1) * 24≤140737488355328):=by show _≤_;omega
   cases b with
   | true=>
    have Y:=hid (show(D++[x])++zr3 true (l.drop (j+1)) k z=zid l k z by rw[List.append_assoc,←P0.out];exact HI.out)
    clear P0 P1 P2 P3
    go_wp2_with (first|(at_builtin;refine zak rfl (.tmp 48) (.tmp 56) 27 rfl w.heap.size 159 i0 _ 2 24 Tryz.underlying27 hi hs0 hs1 hs2 rfl (by decide) _ D.length _ rfl (HO.out.alloc _) _ 1 [.string (bs x.1),.int .i64 (x.2:Nat)] rfl (zd2 (heap_alloc_new _ _)) rfl (fun u hu=>by simp at hu;rcases hu with rfl|rfl<;>rfl) HN1.out HN2.out (by have:=HSG.out;simp;omega) ?_;intro v' w5 hown5 hgrow _;have HO5:=hid hown5;have HG5:=hid hgrow;clear hown5 hgrow))
    go_roundw
    case rel=>exact⟨j+1,D++[x],true,by go_num,KK.out,rfl,Y.out,by rw[ze6,List.length_append];exact HO5.out,yp3 HO.out (Nat.le_refl _) BW.out HSG.out HG5.out⟩
    case measure=>simp[intOf];omega
   | false=>
    rcases zev x.1 k with hx|hx|hx
    ·have hge:∀w,(binOp .geq 9 (.string (bs x.1)) (.string (bs k))).run Tryz.prog w=.ok (.bool false) w:=fun w=>by rw[zp6,hx];rfl
     have Y:=hid (show(D++[x])++zr3 false (l.drop (j+1)) k z=zid l k z by rw[List.append_assoc,←P3.out hx];exact HI.out)
     clear P0 P1 P2 P3 hx
     go_wp2_with (first|(at_builtin;refine zak rfl (.tmp 48) (.tmp 56) 27 rfl w.heap.size 159 i0 _ 2 24 Tryz.underlying27 hi hs0 hs1 hs2 rfl (by decide) _ D.length _ rfl (HO.out.alloc _) _ 1 [.string (bs x.1),.int .i64 (x.2:Nat)] rfl (zd2 (heap_alloc_new _ _)) rfl (fun u hu=>by simp at hu;rcases hu with rfl|rfl<;>rfl) HN1.out HN2.out (by have:=HSG.out;simp;omega) ?_;intro v' w5 hown5 hgrow _;have HO5:=hid hown5;have HG5:=hid hgrow;clear hown5 hgrow))
     go_roundw
     case rel=>exact⟨j+1,D++[x],false,by go_num,KK.out,rfl,Y.out,by rw[ze6,List.length_append];exact HO5.out,yp3 HO.out (Nat.le_refl _) BW.out HSG.out HG5.out⟩
     case measure=>simp[intOf];omega
    ·have hge:∀w,(binOp .geq 9 (.string (bs x.1)) (.string (bs k))).run Tryz.prog w=.ok (.bool true) w:=fun w=>by rw[zp6,hx,zbv];rfl
     have Y:=hid (show(D++[(k,z)])++zr3 true (l.drop (j+1)) k z=zid l k z by rw[List.append_assoc,←P1.out hx];exact HI.out)
     have hb:((bs x.1).toList==(bs k).toList)=true:=by rw[za4,za4];simpa using hx
     have D0:=hid (fun(w':World)(bb:Below wr.heap.size wr w')=>(bb.cell (World.block_lt_of_cell? wr _ d0)).trans d0)
     have C0:=hid (fun(w':World)(bb:Below wr.heap.size wr w')=>(bb.cell (World.block_lt_of_cell? wr _ c0)).trans c0)
     clear P0 P1 P2 P3 hx
     go_wp2_with (first|(at_builtin;refine zak rfl (.tmp 32) (.tmp 36) 27 rfl w.heap.size 159 i0 _ 2 24 Tryz.underlying27 hi hs0 hs1 hs2 rfl (by decide) _ D.length _ rfl (HO.out.alloc _) _ 1 [.string (bs k),.int .i64 (z:Nat)] rfl (zd2 (heap_alloc_new _ _)) rfl (fun u hu=>by simp at hu;rcases hu with rfl|rfl<;>rfl) HN1.out HN2.out (by have:=HSG.out;simp;omega) ?_;intro v5' w5 hown5 hgrow _;have HO5:=hid hown5;have HG5:=hid hgrow;have bb5:=yp3 HO.out (Nat.le_refl _) BW.out HSG.out hgrow;have c05:=(HR.out.below bb5).c0;have d05:=zpy hg.out bb5 GG.out.1;have d15:=zao (zpy hg.out bb5 GG.out.2);have BB5:=hid bb5;have HSG5:=hid bb5.size;clear bb5 hgrow;obtain⟨va5,vc5,rfl⟩:=zab hown5;clear hown5))
     go_roundw
     case rel=>exact⟨j+1,D++[(k,z)],true,by go_num,KK.out,rfl,Y.out,by rw[ze6,List.length_append];exact HO5.out,BB5.out⟩
     case measure=>simp[intOf];omega
    ·have hge:∀w,(binOp .geq 9 (.string (bs x.1)) (.string (bs k))).run Tryz.prog w=.ok (.bool true) w:=fun w=>by rw[zp6,zco hx];rfl
     have Y:=hid (show((D++[(k,z)])++[x])++zr3 true (l.drop (j+1)) k z=zid l k z by rw[List.append_assoc,List.append_assoc,←P2.out hx];exact HI.out)
     have hb:((bs x.1).toList==(bs k).toList)=false:=by rw[za4,za4,beq_eq_false_iff_ne];exact fun e=>zbm hx e.symm
     have HM1:Hid (D.length+1+1≤maxLen):=by show _≤_;unfold maxLen;omega
     have HM2:Hid ((D.length+1+1) * 24≤140737488355328):=by show _≤_;omega
     clear P0 P1 P2 P3 hx
     go_wp2_with (first|(at_builtin;refine zak rfl (.tmp 32) (.tmp 36) 27 rfl w.heap.size 159 i0 _ 2 24 Tryz.underlying27 hi hs0 hs1 hs2 rfl (by decide) _ D.length _ rfl (HO.out.alloc _) _ 1 [.string (bs k),.int .i64 (z:Nat)] rfl (zd2 (heap_alloc_new _ _)) rfl (fun u hu=>by simp at hu;rcases hu with rfl|rfl<;>rfl) HN1.out HN2.out (by have:=HSG.out;simp;omega) ?_;intro v5' w5 hown5 hgrow _;have HO5:=hid hown5;have HG5:=hid hgrow;have bb5:=yp3 HO.out (Nat.le_refl _) BW.out HSG.out hgrow;have c05:=(HR.out.below bb5).c0;have d05:=zpy hg.out bb5 GG.out.1;have d15:=zao (zpy hg.out bb5 GG.out.2);have BB5:=hid bb5;have HSG5:=hid bb5.size;clear bb5 hgrow;obtain⟨va5,vc5,rfl⟩:=zab hown5;clear hown5)|(at_builtin;refine zak rfl (.tmp 48) (.tmp 56) 27 rfl w.heap.size 159 i0 _ 2 24 Tryz.underlying27 hi hs0 hs1 hs2 rfl (by decide) _ (D.length+1) _ rfl (HO5.out.alloc _) _ 1 [.string (bs x.1),.int .i64 (x.2:Nat)] rfl (zd2 (heap_alloc_new _ _)) rfl (fun u hu=>by simp at hu;rcases hu with rfl|rfl<;>rfl) HM1.out HM2.out (by have:=HSG5.out;simp;omega) ?_;intro v6' w6 hown6 hgrow _;have HO6:=hid hown6;have HG6:=hid hgrow;clear hown6 hgrow))
     go_roundw
     case rel=>exact⟨j+1,(D++[(k,z)])++[x],true,by go_num,KK.out,rfl,Y.out,by rw[ze6,ze6,List.length_append,List.length_append];exact HO6.out,yp3 HO5.out (Nat.le_refl _) BB5.out HSG5.out HG6.out⟩
     case measure=>simp[intOf];omega
  ·have hltI:¬(j:Int)<l.length:=by omega
   obtain rfl:j=l.length:=by omega
   have f0:=(HR.out.below BW.out).fz
   cases b with
   | true=>
    have hD:D=zid l k z:=by have:=HI.out;rw[zzh,List.append_nil] at this;exact this
    have HD:=hid hD
    clear hD
    go_wp2_with fail
    go_returns
    exact⟨rfl,zw1 HR.out BW.out HO.out HLT.out HD.out⟩
   | false=>
    have hD:D++[(k,z)]=zid l k z:=by have:=HI.out;rw[zzi] at this;exact this
    have HN1:Hid (D.length+1≤maxLen):=by show _≤_;unfold maxLen;omega
    have HN2:Hid ((D.length+1) * 24≤140737488355328):=by show _≤_;omega
    have HD:=hid hD
    clear hD
    go_wp2_with (first|(at_builtin;refine zak rfl (.tmp 60) (.tmp 64) 27 rfl w.heap.size 159 i0 _ 2 24 Tryz.underlying27 hi hs0 hs1 hs2 rfl (by decide) _ D.length _ rfl (HO.out.alloc _) _ 1 [.string (bs k),.int .i64 (z:Nat)] rfl (zd2 (heap_alloc_new _ _)) rfl (fun u hu=>by simp at hu;rcases hu with rfl|rfl<;>rfl) HN1.out HN2.out (by have:=HSG.out;simp;omega) ?_;intro v5' w5 hown5 hgrow _;have HO5:=hid hown5;have HG5:=hid hgrow;have bb5:=yp3 HO.out (Nat.le_refl _) BW.out HSG.out hgrow;have rg5:=HR.out.below bb5;have c05:=rg5.c0;have f05:=rg5.fz;have BB5:=hid bb5;clear bb5 hgrow;obtain⟨va5,vc5,rfl⟩:=zab hown5;clear hown5))
    go_returns
    exact⟨rfl,zw1 HR.out BB5.out (D:=D++[(k,z)]) (by rw[ze6,List.length_append];exact HO5.out) HLT.out HD.out⟩
end
end
section
def opG(l:GM)(k:List UInt8):GM:=if zhk l k=0 then zid l k (glk l k+1) else l
theorem zva{l:GM}{k:List UInt8}(h:zhk l k=0):opG l k=zid l k (glk l k+1):=if_pos h
theorem zxk{l:GM}{k:List UInt8}(h:zhk l k≠0):opG l k=l:=if_neg h
theorem GWF.glk_le{l:GM}(h:GWF l)(k:List UInt8):glk l k≤2147483648:=by
 by_cases hk:k∈l.map Prod.fst
 ·obtain⟨p,hp,rfl⟩:=List.mem_map.1 hk
  rw[zvo h.srt.nodup hp]
  exact(h.ep p hp).2
 ·rw[zx6 hk];omega
theorem GWF.opG{l:GM}(h:GWF l)(k:List UInt8):GWF (opG l k):=by
 by_cases hc:zhk l k=0
 ·rw[zva hc];exact(yeo h (List.Perm.refl _) hc).2.2.2.1
 ·rw[zxk hc];exact h
attribute [local irreducible] zhk opN opG stC stN zhn glk zid adC
section
variable{w:World}{rb:Nat}{l:GM}{v:Value}
theorem zzl(k:List UInt8)(h:RgAt w rb l v)(hw:GWF l)(hk:k.length≤1000000000):
  Calls Tryz.prog 29 #[.pointer (some ⟨rb,0,none⟩),.string (bs k)] w fun e w'=>e=.returned (.tuple #[.int .i64 (opN l k:Nat),.int .i64 (zhk l k:Nat)])∧(∃v',RgAt w' rb (opG l k) v')∧Chg w w' (fun x=>x=rb):=by
 have hfew:=hw.few
 have MY:=hid (yda k h hw hk)
 have LS:=hid (zoi k h (by omega))
 have HR:=hid h
 have hgl:=hw.glk_le k
 by_cases hm:zhn l k=0
 ·rw[hm] at MY
  by_cases ht:2147483648≤glk l k
  ·obtain⟨e1,e2,e3⟩:=zso hm ht
   rw[e1,e2,zxk (by rw[e1];decide)]
   have htI:(2147483648:Int)≤((glk l k:Nat):Int):=by omega
   clear e1 e2 e3 hm ht h hw hgl
   generalize glk l k=z at *
   go_enter Tryz.func29,Tryz.ntmps29
   go_wp2_with fail
   refine MY.out.mono ?_
   rintro e w1⟨rfl,rfl⟩
   go_wp2_with fail
   refine LS.out.mono ?_
   rintro e w1⟨rfl,rfl⟩
   go_wp2_with fail
   go_ret2
   exact⟨rfl,⟨v,HR.out⟩,Chg.refl _ _⟩
  ·obtain⟨e1,e2,e3⟩:=yep hm ht
   have ST:=hid (yc9 k (glk l k+1) h (by omega))
   rw[e1,e2,zva e1]
   have htI:¬(2147483648:Int)≤((glk l k:Nat):Int):=by omega
   clear e1 e2 e3 hm ht h hw
   rw[Int.natCast_add] at ST ⊢
   generalize zid l k (glk l k+1)=L at *
   have hz0:(0:Int)≤((glk l k:Nat):Int):=by omega
   have hz9:((glk l k:Nat):Int)≤9223372036854775806:=by omega
   clear hgl hfew hk
   generalize ((glk l k:Nat):Int)=z at *
   go_enter Tryz.func29,Tryz.ntmps29
   go_wp2_with fail
   refine MY.out.mono ?_
   rintro e w1⟨rfl,rfl⟩
   go_wp2_with fail
   refine LS.out.mono ?_
   rintro e w1⟨rfl,rfl⟩
   go_wp2_with fail
   refine ST.out.mono ?_
   rintro e w2⟨rfl,rg,ch⟩
   have RG:=hid rg
   have CH:=hid ch
   clear rg ch
   go_wp2_with fail
   go_ret2
   exact⟨rfl,RG.out,CH.out⟩
 ·obtain⟨e1,e2,e3⟩:=zsp (m:=l) (k:=k) hm
  rw[e1,e2,zxk (by rw[e1];exact hm)]
  have hI:(0:Int)<((zhn l k:Nat):Int):=by omega
  clear e1 e2 e3 hm h hw
  generalize zhn l k=c at *
  go_enter Tryz.func29,Tryz.ntmps29
  go_wp2_with fail
  refine MY.out.mono ?_
  rintro e w1⟨rfl,rfl⟩
  go_wp2_with fail
  go_ret2
  exact⟨rfl,⟨v,HR.out⟩,Chg.refl _ _⟩
end
end
end Go.Proofs.YtakhkcaihhpehaaGreatDoor
