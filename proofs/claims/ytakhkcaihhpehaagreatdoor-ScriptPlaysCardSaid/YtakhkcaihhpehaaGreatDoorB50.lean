/- Texts of one proof, one behind the other: DocAns, DocPlays. -/
import Derived.Test.YtakhkcaihhpehaaGreatDoorB41
import Derived.Test.YtakhkcaihhpehaaGreatDoorB42
import Derived.Test.YtakhkcaihhpehaaGreatDoorB46
import Derived.Test.YtakhkcaihhpehaaGreatDoorB49
import Derived.Test.YtakhkcaihhpehaaGreatDoorB35
import Derived.Test.YtakhkcaihhpehaaGreatDoorB39
import Derived.Test.YtakhkcaihhpehaaGreatDoorB06
import Derived.Test.YtakhkcaihhpehaaGreatDoorB26
namespace Go.Proofs.YtakhkcaihhpehaaGreatDoor
open Go.RowKit
open Lib (hid)
set_option linter.unusedVariables false
set_option maxRecDepth 100000
set_option maxHeartbeats 51200000
def DAnw(w0 w:World)(B mb:Nat)(x:SP×An)(e:Ending)(w':World):Prop:=∃t,e=.returned (.tuple #[.string t,.int .i64 (x.2.2:Nat)])∧(x.2.2=0→t=bs x.2.1)∧(∃A',DmAt w0 w' B mb A' x.1)∧Chg w w' (fun x=>x<B)
theorem yja(s:SP)(r:List UInt8)(h:(s.put r).2.2=0):(s.put r).2.1=zg2:=by
 unfold SP.put at h ⊢
 cases hs:zbx (zec 32 r) with
 | none=>rw[hs] at h;cases h
 | some b=>
  rw[hs] at h
  simp only[] at h ⊢
  split at h
  ·cases h
  ·rename_i h1
   rw[if_neg h1]
   split at h
   ·rename_i h2
    rw[if_pos h2]
   ·rename_i h2
    exact absurd h h2
section
variable{w0 w w':World}{B mb:Nat}{A:DmA}{s:SP}
theorem DAnw.of{x:SP×An}{e:Ending}{w1 w2:World}(h:DAns w0 w1 B mb x e w2)(b:Below w.heap.size w w1):DAnw w0 w B mb x e w2:=⟨_,h.1,fun _=>rfl,h.2.1,(Chg.of_below b _).trans h.2.2 (fun _ _ h=>h)⟩
theorem DAnw.same{t:ByteArray}{t':List UInt8}{c:Nat}{e:Ending}(h:DmAt w0 w B mb A s)(b:Below w.heap.size w w')(he:e=.returned (.tuple #[.string t,.int .i64 (c:Nat)]))(hc:c≠0):DAnw w0 w B mb (s,t',c) e w':=⟨_,he,fun h=>absurd h hc,⟨A,h.below b⟩,Chg.of_below b _⟩
theorem ydp(c:Cmd)(r:List (List UInt8))(n:Nat)(v:Value)(h:DmAt w0 w B mb A s)(hI:SInv s)(hv:w.ownsRow B 9 1 v n (zbw (c.word::r)))(hr:∀x∈r,x.length≤200)(ht:c.told=true)(hw:c.words=some r.length):
  Calls Tryz.prog 14 #[.pointer (some ⟨mb,0,none⟩),v] w (DAns w0 w B mb (s.docDoes c r)):=by
 have e:s.docDoes c r=s.does c r:=by unfold SP.docDoes;rw[if_neg (fun e=>by rw[e] at ht;cases ht)]
 rw[e]
 rcases r with _|⟨a,_|⟨b,_|⟨d,r⟩⟩⟩<;>cases c<;>first|(cases ht;done)|(cases hw;done)|skip
 all_goals first
  | exact zzy n v h hI hv
  | exact zqh n v h hI hv
  | exact zz0 a n v h hI hv
  | exact zzz a n v h hI hv (by have:=hr a (by simp);omega)
  | exact ydq a n v h hI hv (by have:=hr a (by simp);omega)
  | exact zz1 a b n v h hI hv
theorem yi9(c:Cmd)(r:List (List UInt8))(n:Nat)(v:Value)(h:DmAt w0 w B mb A s)(hI:SInv s)(hv:w.ownsRow B 9 1 v n (zbw (c.word::r)))(hr:∀x∈r,x.length≤200)(hl:r.length≤1000)(ht:c.told=false)(hw:c.words=none∨c.words=some r.length):
  Calls Tryz.prog 15 #[.pointer (some ⟨mb,0,none⟩),v] w (DAns w0 w B mb (s.docDoes c r)):=by
 by_cases hs:c=.send
 ·subst hs
  exact ydt r n v h hI hv hl (fun x hx=>by have:=hr x hx;omega)
 ·have e:s.docDoes c r=s.does c r:=by unfold SP.docDoes;rw[if_neg hs]
  rw[e]
  rcases r with _|⟨a,_|⟨b,_|⟨d,r⟩⟩⟩<;>cases c<;>first|(cases ht;done)|(exact absurd rfl hs)|(rcases hw with hw|hw<;>cases hw;done)|skip
  all_goals first
   | exact yi8 a n v h hI hv (by have:=hr a (by simp);omega) (fun n=>nm6 a n)
   | exact yds a b n v h hI hv (by have:=hr b (by simp);omega) (by have:=hr a (by simp);omega)
   | exact zz2 a b n v h hI hv (by have:=hr b (by simp);omega)
   | exact ydu a b n v h hI hv (by have:=hr b (by simp);omega) (by have:=hr a (by simp);omega)
attribute [local irreducible] SP.put SP.docDoes SP.docPlay zcn
theorem zu2(line:List UInt8)(h:DmAt w0 w B mb A s)(hI:SInv s)(hl:line.length≤200)(hp:SP.wPut.isPrefixOf line=true)(hq:s.docPlay line=s.put (line.drop 4)):
  Calls Tryz.prog 7 #[.pointer (some ⟨mb,0,none⟩),.string (bs line)] w (DAnw w0 w B mb (s.docPlay line)):=by
 have h3:=(zmp line).1 hp
 have h4:4≤line.length:=by
  have:=congrArg List.length h3
  rw[List.length_take] at this
  simp at this
  omega
 have h4I:(4:Int)≤line.length:=by omega
 have hsz:(bs line).size=line.length:=zae line
 have EX:(bs line).extract 0 4=bs (line.take 4):=by rw[zcv,zai]
 have EY:(bs line).extract 4 line.length=bs (line.drop 4):=by
  rw[zrx line 4 line.length,List.take_of_length_le (by rw[List.length_drop];omega)]
 have k1:=zc3 (line.take 4) [112,117,116,32] h3
 have PT:=hid (yi5 (line.drop 4) h hI (by rw[List.length_drop];omega))
 have HQ:=hid (fun(t:ByteArray)(w2:World)(ht:t=bs zg2)(g:PAns w0 w B mb (s.put (line.drop 4)) (.returned (.int .i64 ((s.put (line.drop 4)).2.2:Nat))) w2)=>show DAnw w0 w B mb (s.put (line.drop 4)) (.returned (.tuple #[.string t,.int .i64 ((s.put (line.drop 4)).2.2:Nat)])) w2 from⟨t,rfl,fun hz=>by rw[ht,yja s _ hz],g.2.1,g.2.2⟩)
 rw[hq]
 clear hp hq h3 h hI
 go_enter Tryz.func7,Tryz.ntmps7
 go_wp2_with fail
 refine PT.out.mono ?_
 rintro e w1⟨rfl,g⟩
 have G:=hid g
 clear PT g
 go_wp2_with fail
 go_returns
 exact HQ.out _ _ (by unfold zg2 bs;rfl) ⟨rfl,G.out⟩
theorem zu3(line x:List UInt8)(r:List (List UInt8))(h:DmAt w0 w B mb A s)(hI:SInv s)(hl:line.length≤200)(hp:¬SP.wPut.isPrefixOf line=true)(hs:zcn 32 line=x::r):
  Calls Tryz.prog 7 #[.pointer (some ⟨mb,0,none⟩),.string (bs line)] w (DAnw w0 w B mb (s.docPlay line)):=by
 have hq:s.docPlay line=match zci x with|none=>(s,[],1)|some c=>if c.words=none∨c.words=some r.length then s.docDoes c r else (s,[],1):=by
  unfold SP.docPlay
  rw[if_neg hp,hs]
  rfl
 have HX:=hid h
 have hx:∀y∈x::r,y.length≤200:=fun y hy=>by
  rw[←hs] at hy
  have:=(zlg (c:=32) line.length line (Nat.le_refl _) y hy).1
  omega
 have hrl:r.length≤200:=by
  have:=zhe 32 line
  rw[hs,List.length_cons] at this
  omega
 have RC:=zqf 32 32 rfl line w (by omega)
 rw[hs] at RC
 have RC:=hid RC
 have CC:=hid (show((4:Int)≤line.length∧(bs line).extract 0 4=bs (line.take 4)∧((bs (line.take 4)).toList==[112,117,116,32])=false)∨¬(4:Int)≤line.length from by
  by_cases h4:4≤line.length
  ·exact .inl ⟨by omega,by rw[zcv,zai],zbj (line.take 4) [112,117,116,32] (fun e=>hp ((zmp line).2 e))⟩
  ·exact .inr (by omega))
 have hsz:(bs line).size=line.length:=zae line
 have WO:=hid (fun(w':World)=>zzx x w')
 have TO:=hid (fun(c:Cmd)(n:Nat)(v:Value)(w1:World)(e:x=c.word)(b:Below w.heap.size w w1)(hv:w1.ownsRow w.heap.size 9 1 v n (zbw (x::r)))=>ydp c r n v (h.below b) hI (by rw[←e];exact za1 hv h.lB) (fun y hy=>hx y (List.mem_cons_of_mem _ hy)))
 have NO:=hid (fun(c:Cmd)(n:Nat)(v:Value)(w1:World)(e:x=c.word)(hv:w1.ownsRow w.heap.size 9 1 v n (zbw (x::r)))=>yi6 (mb:=mb) c r n v (by rw[←e];exact hv))
 have AO:=hid (fun(c:Cmd)(n:Nat)(v:Value)(w1:World)(e:x=c.word)(b:Below w.heap.size w w1)(hv:w1.ownsRow w.heap.size 9 1 v n (zbw (x::r)))=>yi9 c r n v (h.below b) hI (by rw[←e];exact za1 hv h.lB) (fun y hy=>hx y (List.mem_cons_of_mem _ hy)) (by omega))
 have hcw:∀c,zci x=some c→x=c.word:=fun c h=>zil h
 rw[hq]
 clear hq h hI hp hs hx hl
 cases hc:zci x with
 | none=>
  have hz:zk1 x=-2:=by unfold zk1;rw[hc]
  have hW:=WO.out
  rw[hz] at hW
  have WP:=hid hW
  simp only[]
  clear hz hW WO TO NO AO hcw hc
  rcases CC.out with⟨h4I,EX,k1⟩|h4I
  all_goals
   clear CC
   go_enter Tryz.func7,Tryz.ntmps7
   go_wp2_with fail
   refine RC.out.mono ?_
   rintro e w1⟨v,rfl,hr,b1⟩
   have B1:=hid b1
   obtain⟨ad,cp,rfl,hn,_,g⟩:=zbk hr (by simp)
   have d0:=g 0 _ rfl
   rw[zdy] at d0
   have hn2:0<(x::r).length:=by simp
   have hn1:(0:Int)<((x::r).length:Int):=by omega
   clear RC hr g b1 hn
   generalize (x::r).length=n at *
   go_wp2_with fail
   refine(WP.out _).mono ?_
   rintro e w2⟨rfl,rfl⟩
   clear WP
   go_wp2_with fail
   go_returns
   exact DAnw.same HX.out B1.out rfl (by decide)
 | some c=>
  simp only[]
  have hz:zk1 x=c.num:=by unfold zk1;rw[hc]
  have hxw:=hid (hcw c hc)
  have hW:=WO.out
  rw[hz] at hW
  clear hz WO hcw hc
  by_cases hw:c.words=none∨c.words=some r.length
  ·rw[if_pos hw]
   have y1:¬c.num=-2:=by
    unfold Cmd.num
    rcases hw with hw|hw<;>rw[hw]<;>simp only[]<;>omega
   have YY:=hid (show(0≤c.num∧((r.length+1:Nat):Int)=c.num+1)∨¬0≤c.num from by
    unfold Cmd.num
    rcases hw with hw|hw<;>rw[hw]<;>simp only[]<;>omega)
   have y8:c.num≤200:=by
    unfold Cmd.num
    rcases hw with hw|hw<;>rw[hw]<;>simp only[]<;>omega
   have y9:-1≤c.num:=by
    unfold Cmd.num
    rcases hw with hw|hw<;>rw[hw]<;>simp only[]<;>omega
   have HW:=hid hw
   have HWT:=hid (show c.told=true→c.words=some r.length from fun ht=>hw.resolve_left (fun e=>by cases c<;>first|(cases ht;done)|(cases e;done)))
   have WP:=hid hW
   clear hW hw
   have TO:=hid (TO.out c)
   have NO:=hid (NO.out c)
   have AO:=hid (AO.out c)
   have TF:=hid (show c.told=true∨c.told=false from by cases c.told<;>simp)
   have DC:=hid (SP.docDoes_okc s c r)
   generalize hzz:c.num=z at *
   clear hzz
   rcases TF.out with ht|ht
   ·have TT:=hid (fun (n:Nat) (v:Value) (w1:World) b hv=>TO.out n v w1 hxw.out b hv ht (HWT.out ht))
    clear TO NO AO TF HWT HW hxw ht
    generalize s.docDoes c r=p at *
    have zp:(0:Int)≤(p.2.2:Nat):=by omega
    rcases CC.out with⟨h4I,EX,k1⟩|h4I<;>rcases YY.out with⟨y2,y3⟩|y2
    all_goals
     clear CC YY
     go_enter Tryz.func7,Tryz.ntmps7
     go_wp2_with fail
     refine RC.out.mono ?_
     rintro e w1⟨v,rfl,hr,b1⟩
     have B1:=hid b1
     obtain⟨ad,cp,rfl,hn,_,g⟩:=zbk hr (by simp)
     have d0:=g 0 _ rfl
     rw[zdy] at d0
     have hn2:0<(x::r).length:=by simp
     have hn1:(0:Int)<((x::r).length:Int):=by omega
     have TT1:=hid (TT.out _ _ _ b1 hr)
     clear TT
     clear RC hr g b1 hn
     rw[show(x::r).length=r.length+1 from rfl] at *
     generalize r.length+1=n at *
     go_wp2_with fail
     refine(WP.out _).mono ?_
     rintro e w2⟨rfl,rfl⟩
     clear WP
     go_wp2_with fail
     refine TT1.out.mono ?_
     rintro e w3 g
     have G:=hid (DAnw.of g B1.out)
     obtain⟨rfl,_⟩:=g
     clear TT1
     go_wp2_with fail
     go_returns
     exact G.out
   ·have TT:=hid (fun (n:Nat) (v:Value) (w1:World) hv=>NO.out n v w1 hxw.out hv ht)
    have AA:=hid (fun (n:Nat) (v:Value) (w1:World) b hv=>AO.out n v w1 hxw.out b hv ht HW.out)
    clear TO NO AO TF HWT HW hxw ht
    generalize s.docDoes c r=p at *
    rcases CC.out with⟨h4I,EX,k1⟩|h4I<;>rcases YY.out with⟨y2,y3⟩|y2
    all_goals
     clear CC YY
     go_enter Tryz.func7,Tryz.ntmps7
     go_wp2_with fail
     refine RC.out.mono ?_
     rintro e w1⟨v,rfl,hr,b1⟩
     have B1:=hid b1
     obtain⟨ad,cp,rfl,hn,_,g⟩:=zbk hr (by simp)
     have d0:=g 0 _ rfl
     rw[zdy] at d0
     have hn2:0<(x::r).length:=by simp
     have hn1:(0:Int)<((x::r).length:Int):=by omega
     have TT1:=hid (TT.out _ _ _ hr)
     have AA1:=hid (AA.out _ _ _ b1 hr)
     clear TT AA
     clear RC hr g b1 hn
     rw[show(x::r).length=r.length+1 from rfl] at *
     generalize r.length+1=n at *
     go_wp2_with fail
     refine(WP.out _).mono ?_
     rintro e w2⟨rfl,rfl⟩
     clear WP
     go_wp2_with fail
     refine TT1.out.mono ?_
     rintro e w3⟨rfl,rfl⟩
     clear TT1
     go_wp2_with fail
     refine AA1.out.mono ?_
     rintro e w3 g
     have G:=hid (DAnw.of g B1.out)
     obtain⟨rfl,_⟩:=g
     clear AA1
     go_wp2_with fail
     go_returns
     exact G.out
  ·rw[if_neg hw]
   have y2:0≤c.num:=by
    unfold Cmd.num
    cases h:c.words with
    | none=>exact absurd (.inl h) hw
    | some k=>simp only[];omega
   have y1:¬c.num=-2:=by omega
   have y3:¬((r.length+1:Nat):Int)=c.num+1:=by
    intro e
    apply hw
    unfold Cmd.num at e
    cases h:c.words with
    | none=>exact .inl rfl
    | some k=>rw[h] at e;simp only[] at e;exact .inr (by congr 1;omega)
   have y8:c.num≤200:=by cases c<;>decide
   have y4:(((r.length+1:Nat):Int) != c.num+1)=true:=by rw[bne_iff_ne];exact y3
   have y5:(c.num==-2)=false:=by rw[beq_eq_false_iff_ne];exact y1
   have WP:=hid hW
   clear hW hw TO NO AO hxw
   generalize hzz:c.num=z at *
   clear hzz
   rcases CC.out with⟨h4I,EX,k1⟩|h4I
   all_goals
    clear CC
    go_enter Tryz.func7,Tryz.ntmps7
    go_wp2_with fail
    refine RC.out.mono ?_
    rintro e w1⟨v,rfl,hr,b1⟩
    have B1:=hid b1
    obtain⟨ad,cp,rfl,hn,_,g⟩:=zbk hr (by simp)
    have d0:=g 0 _ rfl
    rw[zdy] at d0
    have hn2:0<(x::r).length:=by simp
    have hn1:(0:Int)<((x::r).length:Int):=by omega
    clear RC hr g b1 hn
    rw[show(x::r).length=r.length+1 from rfl] at *
    generalize r.length+1=n at *
    go_wp2_with fail
    refine(WP.out _).mono ?_
    rintro e w2⟨rfl,rfl⟩
    clear WP
    go_wp2_with fail
    go_returns
    exact DAnw.same HX.out B1.out rfl (by decide)
theorem zu4(line:List UInt8)(h:DmAt w0 w B mb A s)(hI:SInv s)(hl:line.length≤200):
  Calls Tryz.prog 7 #[.pointer (some ⟨mb,0,none⟩),.string (bs line)] w (DAnw w0 w B mb (s.docPlay line)):=by
 by_cases hp:SP.wPut.isPrefixOf line=true
 ·exact zu2 line h hI hl hp (by unfold SP.docPlay;rw[if_pos hp])
 ·obtain⟨x,r,hs⟩:=zl9 line
  exact zu3 line x r h hI hl hp hs
end
section
section
variable{w0 w w':World}{B mb:Nat}{A:DmA}{s:SP}
theorem ztz{ob:Obj}{o:Value}(hg:(w.alloc ob).grownBy w' o.ownBlock):Chg (w.alloc ob) w' (fun x=>o.ownBlock=some x):=⟨hg.os,hg.tape,hg.output,hg.size,fun x hx hn=>hg.block x hx (fun e=>hn e.symm)⟩
theorem DmAt.row(h:DmAt w0 w B mb A s){o:Value}{base n:Nat}{xs:List Value}(ho:w.ownsRow base 9 1 o n xs)(hb:B≤base){ob:Obj}(hg:(w.alloc ob).grownBy w' o.ownBlock):DmAt w0 w' B mb A s:=by
 have h1:=h.below (zag w ob)
 have ho1:=ho.alloc ob
 have hc:=ztz hg
 have lo:∀z,o.ownBlock=some z→B≤z:=fun z hz=>Nat.le_trans hb (ze1 ho hz)
 have hbel:=hc.below h1.bel (fun z hz=>by have:=lo z hz;have:=h1.lg;omega)
 exact⟨(hc.block mb h1.ltm (fun e=>by have:=lo _ e;have:=h1.lm.2;omega)).trans h1.cells,zan h1.fr hc (fun z hz e=>zfb ho1 h1.fr (by decide) e hz),zan h1.tt hc (fun z hz e=>zfb ho1 h1.tt (by decide) e hz),
  h1.gt.kept hc (fun e=>by have:=lo _ e;have:=h1.lg.2;omega) (fun z hz e=>zfb ho1 h1.gt.own (by decide) e hz),h1.gp,h1.gw,h1.tp.kept hc (fun e=>by have:=lo _ e;have:=h1.lt.2;omega),h1.lm,h1.lg,h1.lt,Nat.le_trans h1.lB hc.size,hbel⟩
theorem zjl{o x:Value}{b n size:Nat}{e:TypeId}{xs:List Value}(hx:w.ownsRow b e size x n xs)(ap:∀y,o.ownBlock=some y→x.ownBlock≠some y){ob:Obj}(hg:(w.alloc ob).grownBy w' o.ownBlock):w'.ownsRow b e size x n xs:=zan (hx.alloc ob) (ztz hg) (fun z hz e=>ap z e hz)
theorem zkf{o v' x:Value}{b n size:Nat}{e:TypeId}{xs:List Value}(hx:w.ownsRow b e size x n xs)(ap:∀y,o.ownBlock=some y→x.ownBlock≠some y){ob:Obj}(hv:v'.ownBlock=o.ownBlock∨v'.ownBlock=some (w.alloc ob).heap.size):∀y,v'.ownBlock=some y→x.ownBlock≠some y:=by
 intro y hy e1
 rcases hv with hv|hv
 ·exact ap y (by rw[←hv];exact hy) e1
 ·have h1:=(hx.lt y e1).2
  rw[hv] at hy
  have h2:=Option.some.inj hy
  simp at h2
  omega
theorem zfh{o x:Value}(ap:∀y,o.ownBlock=some y→x.ownBlock≠some y):∀y,x.ownBlock=some y→o.ownBlock≠some y:=fun y h1 h2=>ap y h2 h1
theorem DmAt.zero(h:Below w0.heap.size w0 w):
  DmAt w0 (((w.alloc (.cells #[.slice none 0 0] 29)).alloc (.cells #[.string ⟨#[]⟩,.bool false,.int .i64 (-1)] 32)).alloc (.cells #[.slice none 0 0,.slice none 0 0,.pointer (some ⟨w.heap.size,0,none⟩),.pointer (some ⟨w.heap.size+1,0,none⟩)] 35))
   (w.heap.size+3) (w.heap.size+2) ⟨.slice none 0 0,.slice none 0 0,w.heap.size,w.heap.size+1,.slice none 0 0,[]⟩ SP.zero:=by
 have hs:=h.size
 have b1:=zag w (.cells #[.slice none 0 0] 29)
 have b2:=zag (w.alloc (.cells #[.slice none 0 0] 29)) (.cells #[.string ⟨#[]⟩,.bool false,.int .i64 (-1)] 32)
 have b3:=zag ((w.alloc (.cells #[.slice none 0 0] 29)).alloc (.cells #[.string ⟨#[]⟩,.bool false,.int .i64 (-1)] 32)) (.cells #[.slice none 0 0,.slice none 0 0,.pointer (some ⟨w.heap.size,0,none⟩),.pointer (some ⟨w.heap.size+1,0,none⟩)] 35)
 have t0:=zn3 w (.cells #[.slice none 0 0] 29) (.cells #[.string ⟨#[]⟩,.bool false,.int .i64 (-1)] 32)
 refine⟨?_,World.ownsRow_nil _ _ _ _,World.ownsRow_nil _ _ _ _,((RgAt.new (w:=w)).below b2).below b3,List.Perm.refl _,GWF.nil,?_,⟨by omega,by omega⟩,⟨hs,by show w.heap.size<_;omega⟩,⟨by show _≤w.heap.size+1;omega,by show w.heap.size+1<_;omega⟩,by simp,zaa (zaa (zaa h b1) b2) b3⟩
 ·have:=heap_alloc_new ((w.alloc (.cells #[.slice none 0 0] 29)).alloc (.cells #[.string ⟨#[]⟩,.bool false,.int .i64 (-1)] 32)) (.cells #[.slice none 0 0,.slice none 0 0,.pointer (some ⟨w.heap.size,0,none⟩),.pointer (some ⟨w.heap.size+1,0,none⟩)] 35)
  simpa using this
 ·refine⟨?_,by decide⟩
  have:=(b3.block _ (lt_of_block t0)).trans t0
  simpa [SP.zero,bs_nil] using this
end
theorem yk4(ls:List (List UInt8)):zbw (SP.zero.docRun (ls.take 0))=[]∧SP.zero.docAfter (ls.take 0)=SP.zero∧zbw (ls.take 0)=[]∧(ls.take 0).any zfy=false∧SP.clean zfy false (ls.take 0):=⟨rfl,rfl,rfl,rfl,trivial⟩
attribute [local irreducible] SP.run SP.docRun SP.docAfter SP.docPlay SP.told SP.clean zfy yng
theorem scriptPlays_walk(E:Nat→Addr)(s0:Option Addr)(n0 c0:Nat)(a0:List ByteArray)(w:World)(hl:SliceIs w (.slice s0 n0 c0) 1 (a0.map .string)∧∀s∈a0,s.size≤maxLen)(hh:Hand w)(ht:TabW w)(hm:MaxW w)(h1:∀c∈[1,2,3,4,5,6,8,9,10,11,12,14,13],Has E w c∧Sent w (E c))(h2:∀c∈[1,2,3,4,5,6,8,9,10,11,12,14,13],∀c'∈[1,2,3,4,5,6,8,9,10,11,12,14,13],c≠c'→E c≠E c')(hx:∀c∈[1,2,3,4,5,6,8,9,10,11,12,14,13],w.cell? (E c)=some (.string (bs (zit c)))):
  Calls Tryz.prog 3 #[.slice s0 n0 c0] w fun e w'=>e=.returned (.bool true)∧Below w.heap.size w w':=by
 obtain⟨hv,hbig⟩:=hl
 rw[yjo] at hv
 have hB:∀x∈a0.map (fun s=>s.data.toList),x.length≤maxLen:=fun x hx=>by
  obtain⟨s,hs,rfl⟩:=List.mem_map.1 hx
  exact hbig s hs
 generalize a0.map (fun s=>s.data.toList)=ls at *
 have HE:=hid (ynr (by intro c a b d;simp;omega) hh ht hm h1 hx)
 have HV:=hid hv
 have HEL:=hid (yke E w HE.out)
 have HLG:=hid (fun(w':World)(b:Below w.heap.size w w')=>yjz ls _ 40 w' (hv.below b) (by omega) hB)
 have hlen:n0=ls.length∧n0≤c0∧c0≤maxLen:=by
  obtain⟨s',n',c',e,e2,e3,e4,_⟩:=hv.get
  cases e
  rw[zwu] at e2;exact⟨by omega,e3,e4⟩
 obtain⟨rfl,cc0,cc1⟩:=hlen
 unfold maxLen at cc1
 obtain⟨i0,hi0,hz0,hz1,hz2⟩:=info_parts zgw
 have Z0:=hid (yk4 ls)
 clear hv hbig hh ht hm h1 h2 hx hB
 go_enter Tryz.func3,Tryz.ntmps3
 go_wp2_with fail
 refine HEL.out.mono ?_
 rintro e w1⟨rfl,b1⟩
 have B1:=hid b1
 have HLG1:=hid (HLG.out _ b1)
 clear b1 HEL HLG
 go_wp2_with fail
 refine HLG1.out.mono ?_
 rintro e w2⟨b,rfl,hb,rfl⟩
 cases b with
 | true=>
  clear hb HLG1
  go_wp2_with fail
  go_ret
  exact⟨rfl,B1.out⟩
 | false=>
  obtain⟨hl40,hall⟩:=hb rfl
  have HALL:=hid hall
  have DZ:=hid (DmAt.zero B1.out)
  clear hb HLG1 hall
  go_wp2_with fail
  generalize ((w1.alloc (.cells #[.slice none 0 0] 29)).alloc (.cells #[.string ⟨#[]⟩,.bool false,.int .i64 (-1)] 32)).alloc (.cells #[.slice none 0 0,.slice none 0 0,.pointer (some ⟨w1.heap.size,0,none⟩),.pointer (some ⟨w1.heap.size+1,0,none⟩)] 35)=W at *
  generalize hBB:w1.heap.size+3=B at *
  generalize hmm:w1.heap.size+2=mb at *
  clear hBB hmm
  go_loopw [4,5,7,8,9,10,11] (fun o x sn i _ _ _ wr=>∃(j:Nat)(A:DmA),i=.int .i64 j∧j≤ls.length∧sn=.bool ((ls.take j).any zfy)∧wr.ownsRow B 9 1 o j (zbw (ls.take j))∧wr.ownsRow B 9 1 x j (zbw (SP.zero.docRun (ls.take j)))∧DmAt w wr B mb A (SP.zero.docAfter (ls.take j))∧(∀y,o.ownBlock=some y→x.ownBlock≠some y)∧SP.clean zfy false (ls.take j)) (fun _ _ _ i _ _ _ _=>ls.length - (intOf i).toNat)
  case atStart=>exact⟨0,_,rfl,by omega,by rw[Z0.out.2.2.2.1],by rw[Z0.out.2.2.1];exact World.ownsRow_nil _ _ _ _,by rw[Z0.out.1];exact World.ownsRow_nil _ _ _ _,by rw[Z0.out.2.1];exact DZ.out,fun y hy=>(by simp[Value.ownBlock] at hy),Z0.out.2.2.2.2⟩
  case round=>
   obtain⟨j,A,rfl,hj,rfl,ho,hx,hd,hap,hcl⟩:=hrel
   have HO:=hid ho
   have HXR:=hid hx
   have HD:=hid hd
   have HAP:=hid hap
   have HCL:=hid hcl
   obtain⟨oa,oc,rfl⟩:=zab ho
   obtain⟨xa,xc,rfl⟩:=zab hx
   clear ho hx hd hap hcl
   by_cases hlt:j<ls.length
   ·have hltI:(j:Int)<ls.length:=by omega
    obtain⟨s0',n0',c0',e1,_,_,_,g1⟩:=HV.out.get
    cases e1
    obtain⟨ad,rfl,e0⟩:=g1 _ _ (zgp ls j hlt)
    have CL:=hid (fun(X:World)(b:Below w.heap.size w X)=>(b.cell (World.block_lt_of_cell? w _ e0)).trans e0)
    have d0:=CL.out _ HD.out.bel
    have x1:(0:Int)≤j:=by omega
    have x2:(j:Int).toNat=j:=by omega
    have KK:=hid (show j+1≤ls.length by omega)
    have HIV:=hid (zk7 (ls.take j) SP.zero zpq (fun x hx=>by have:=HALL.out x (List.mem_of_mem_take hx);omega))
    have hxl:=HALL.out ls[j] (List.getElem_mem _)
    have TK:ls.take (j+1)=ls.take j++[ls[j]]:=List.take_succ_eq_append_getElem hlt
    have N1:=hid (show zbw (ls.take (j+1))=zbw (ls.take j)++[.string (bs ls[j])] by rw[TK];exact zcz _ _)
    have N2:=hid (show zbw (SP.zero.docRun (ls.take (j+1)))=zbw (SP.zero.docRun (ls.take j))++[.string (bs (SP.told ((SP.zero.docAfter (ls.take j)).docPlay ls[j]).2))] by rw[TK,SP.docRun_snoc];exact zcz _ _)
    have N3:=hid (show SP.zero.docAfter (ls.take (j+1))=((SP.zero.docAfter (ls.take j)).docPlay ls[j]).1 by rw[TK,SP.docAfter_snoc])
    have N4:=hid (show(ls.take (j+1)).any zfy=((ls.take j).any zfy || zfy ls[j]) by rw[TK,List.any_append];simp)
    have N5:=hid (show((ls.take j).any zfy=true→yng ls[j]=false)→SP.clean zfy false (ls.take (j+1)) from fun h=>by
     rw[TK]
     exact zpi zfy ls[j] (ls.take j) false HCL.out (fun e=>fun hu=>by
      rw[Bool.false_or] at e
      have:=h e
      rw[(ynf _).2 hu] at this
      cases this))
    have N6:=hid (show zfy ls[j]=((bs (ls[j].take 4)).toList==[115,101,110,100]) by
     unfold zfy
     by_cases e:ls[j].take 4=[115,101,110,100]
     ·rw[zc3 _ _ e,e];rfl
     ·rw[zbj _ _ e];exact beq_eq_false_iff_ne.2 e)
    have AN:=hid (fun(X:World)(b:Below wr.heap.size wr X)=>zu4 ls[j] (HD.out.below b) HIV.out (by omega))
    have US:=hid (zu1 ls[j] wr (by omega))
    have OK:=hid (SP.docPlay_okc (SP.zero.docAfter (ls.take j)) ls[j])
    have TD:=hid (yce ((SP.zero.docAfter (ls.take j)).docPlay ls[j]).2)
    have HN1:Hid (j+1≤maxLen):=by show _≤_;unfold maxLen;omega
    have HN2:Hid ((j+1) * 16≤140737488355328):=by show _≤_;omega
    have hszl:(bs ls[j]).size=ls[j].length:=zae _
    have SH:=hid (show ls[j].length<4→zfy ls[j]=false from fun h=>by
     unfold zfy
     rw[beq_eq_false_iff_ne]
     intro e
     have:=congrArg List.length e
     rw[List.length_take] at this
     simp at this
     omega)
    have BT:=hid (show(bs ls[j]).extract 0 4=bs (ls[j].take 4) by rw[zcv,zai])
    clear TK e0 g1 HIV HCL
    generalize SP.told ((SP.zero.docAfter (ls.take j)).docPlay ls[j]).2=T at *
    generalize (SP.zero.docAfter (ls.take j)).docPlay ls[j]=p at *
    generalize SP.zero.docAfter (ls.take j)=sd at *
    generalize (ls.take j).any zfy=sn at *
    generalize ls[j]=l at *
    generalize yng l=ub at *
    go_wp2_with fail
    refine US.out.mono ?_
    rintro e w3⟨rfl,b3⟩
    have B3:=hid b3
    have d0:=CL.out _ (zaa HD.out.bel b3)
    clear US b3
    by_cases hst:sn=true∧ub=true
    ·obtain⟨rfl,rfl⟩:=hst
     have BE:=hid (zaa HD.out.bel B3.out)
     clear AN N5
     go_wp2_with fail
     go_ret
     exact⟨rfl,BE.out⟩
    ·have CLN:=hid (N5.out (fun e=>by cases ub;rfl;exact absurd ⟨e,rfl⟩ hst))
     have AN3:=hid (AN.out _ B3.out)
     clear AN N5
     have WAYS:(∃sn':Bool,sn'=(sn || zfy l)∧((sn=true∧ub=false∧(4:Int)≤l.length)∨(sn=true∧ub=false∧¬(4:Int)≤l.length)∨(sn=false∧(4:Int)≤l.length∧((bs (l.take 4)).toList==[115,101,110,100])=sn')∨(sn=false∧¬(4:Int)≤l.length∧sn'=false))):=by
      refine⟨_,rfl,?_⟩
      cases sn with
      | true=>
       have:ub=false:=by cases ub;rfl;exact absurd ⟨rfl,rfl⟩ hst
       by_cases h4:4≤l.length
       ·exact .inl ⟨rfl,this,by omega⟩
       ·exact .inr (.inl ⟨rfl,this,by omega⟩)
      | false=>
       by_cases h4:4≤l.length
       ·exact .inr (.inr (.inl ⟨rfl,by omega,by rw[Bool.false_or,N6.out]⟩))
       ·exact .inr (.inr (.inr ⟨rfl,by omega,by rw[Bool.false_or,SH.out (by omega)]⟩))
     obtain⟨sn',hsn,WAYS⟩:=WAYS
     have HSN:=hid hsn
     have WY:=hid WAYS
     have EX:=BT.out
     clear hst N6 SH hsn WAYS BT
     rcases WY.out with⟨rfl,rfl,h4⟩|⟨rfl,rfl,h4⟩|⟨rfl,h4,hq⟩|⟨rfl,h4,rfl⟩
     all_goals
      clear WY
      have HS2:=hid HSN.out.symm
      clear HSN
      go_wp2_with fail
      refine AN3.out.mono ?_
      rintro e w4⟨t,rfl,ht,⟨A',hd4⟩,hc4⟩
      have HD4:=hid hd4
      have C4:=hid ((Chg.of_below B3.out (fun x=>x<B)).trans hc4 (fun _ _ h=>h))
      have HT:=hid ht
      have HO4:=hid (zei HO.out C4.out (fun _ h=>h))
      have HX4:=hid (zei HXR.out C4.out (fun _ h=>h))
      have d0:=CL.out _ hd4.bel
      clear AN3 ht hd4 hc4
      by_cases hc:p.2.2=0
      ·have hcI:¬(0:Int)<(p.2.2:Nat):=by omega
       have HTT:=hid (show t=bs T from by rw[HT.out hc,TD.out.1 hc])
       clear HT TD OK hc
       go_wp2_with (at_builtin;refine Hid.out ?_)
       refine hid ?_
       refine zak rfl _ _ 22 rfl B 9 i0 _ 1 16 Tryz.underlying22 hi0 hz0 hz1 hz2 rfl (by decide) _ _ _ rfl (HO4.out.alloc _) (.slice (some ⟨w4.heap.size,0,none⟩) 1 1) 1 [.string (bs l)] rfl (zd7 1 (heap_alloc_new w4 _) rfl rfl (by omega)) rfl (zbs rfl) HN1.out HN2.out (by have:=HD4.out.lB;simp;omega) ?_
       intro v6 w6 hown6 hgrow hv6
       have HO6:=hid hown6
       have HD6:=hid (HD4.out.row HO4.out (Nat.le_refl _) hgrow)
       have HX6:=hid (zjl HX4.out HAP.out hgrow)
       have AP6:=hid (zkf HX4.out HAP.out hv6)
       clear hown6 hgrow hv6 HD4 HO4 HX4 HAP
       obtain⟨va,vc,rfl⟩:=zab HO6.out
       rw[HTT.out]
       go_wp2_with (at_builtin;refine Hid.out ?_)
       refine hid ?_
       refine zak rfl _ _ 22 rfl B 9 i0 _ 1 16 Tryz.underlying22 hi0 hz0 hz1 hz2 rfl (by decide) _ _ _ rfl (HX6.out.alloc _) (.slice (some ⟨w6.heap.size,0,none⟩) 1 1) 1 [.string (bs T)] rfl (zd7 1 (heap_alloc_new w6 _) rfl rfl (by omega)) rfl (zbs rfl) HN1.out HN2.out (by have:=HD6.out.lB;simp;omega) ?_
       intro v7 w7 hown7 hgrow hv7
       have HX7:=hid hown7
       have HD7:=hid (HD6.out.row HX6.out (Nat.le_refl _) hgrow)
       have HO7:=hid (zjl HO6.out (zfh AP6.out) hgrow)
       have AP7:=hid (zfh (zkf HO6.out (zfh AP6.out) hv7))
       clear hown7 hgrow hv7 HD6 HO6 HX6 AP6
       obtain⟨ua,uc,rfl⟩:=zab HX7.out
       go_wp2_with fail
       go_roundw
       case rel=>exact⟨j+1,A',by go_num,KK.out,by first|(rw[N4.out,HS2.out];done)|(rw[N4.out];rfl),by rw[N1.out];exact HO7.out,by rw[N2.out];exact HX7.out,by rw[N3.out];exact HD7.out,AP7.out,CLN.out⟩
       case measure=>have:=KK.out;simp[intOf];omega
      ·have hcI:(0:Int)<(p.2.2:Nat):=by omega
       have HTT:=hid (show errD p.2.2=T from by rw[TD.out.2 hc];exact you _ (by omega) OK.out.1)
       have EQ:=hid (yi7 p.2.2 w4 (by omega) OK.out.1)
       clear HT TD OK hc
       go_wp2_with fail
       refine EQ.out.mono ?_
       rintro e w5⟨rfl,b5⟩
       have HD5:=hid (HD4.out.below b5)
       have HO5:=hid (zad HO4.out b5)
       have HX5:=hid (zad HX4.out b5)
       have d0:=CL.out _ HD5.out.bel
       rw[HTT.out]
       clear EQ b5 HD4 HO4 HX4
       go_wp2_with (at_builtin;refine Hid.out ?_)
       refine hid ?_
       refine zak rfl _ _ 22 rfl B 9 i0 _ 1 16 Tryz.underlying22 hi0 hz0 hz1 hz2 rfl (by decide) _ _ _ rfl (HO5.out.alloc _) (.slice (some ⟨w5.heap.size,0,none⟩) 1 1) 1 [.string (bs l)] rfl (zd7 1 (heap_alloc_new w5 _) rfl rfl (by omega)) rfl (zbs rfl) HN1.out HN2.out (by have:=HD5.out.lB;simp;omega) ?_
       intro v6 w6 hown6 hgrow hv6
       have HO6:=hid hown6
       have HD6:=hid (HD5.out.row HO5.out (Nat.le_refl _) hgrow)
       have HX6:=hid (zjl HX5.out HAP.out hgrow)
       have AP6:=hid (zkf HX5.out HAP.out hv6)
       clear hown6 hgrow hv6 HD5 HO5 HX5 HAP
       obtain⟨va,vc,rfl⟩:=zab HO6.out
       go_wp2_with (at_builtin;refine Hid.out ?_)
       refine hid ?_
       refine zak rfl _ _ 22 rfl B 9 i0 _ 1 16 Tryz.underlying22 hi0 hz0 hz1 hz2 rfl (by decide) _ _ _ rfl (HX6.out.alloc _) (.slice (some ⟨w6.heap.size,0,none⟩) 1 1) 1 [.string (bs T)] rfl (zd7 1 (heap_alloc_new w6 _) rfl rfl (by omega)) rfl (zbs rfl) HN1.out HN2.out (by have:=HD6.out.lB;simp;omega) ?_
       intro v7 w7 hown7 hgrow hv7
       have HX7:=hid hown7
       have HD7:=hid (HD6.out.row HX6.out (Nat.le_refl _) hgrow)
       have HO7:=hid (zjl HO6.out (zfh AP6.out) hgrow)
       have AP7:=hid (zfh (zkf HO6.out (zfh AP6.out) hv7))
       clear hown7 hgrow hv7 HD6 HO6 HX6 AP6
       obtain⟨ua,uc,rfl⟩:=zab HX7.out
       go_wp2_with fail
       go_roundw
       case rel=>exact⟨j+1,A',by go_num,KK.out,by first|(rw[N4.out,HS2.out];done)|(rw[N4.out];rfl),by rw[N1.out];exact HO7.out,by rw[N2.out];exact HX7.out,by rw[N3.out];exact HD7.out,AP7.out,CLN.out⟩
       case measure=>have:=KK.out;simp[intOf];omega
   ·have hltI:¬(j:Int)<ls.length:=by omega
    obtain rfl:j=ls.length:=by omega
    have hcl:=HCL.out
    have hd:=HD.out
    have ho:=HO.out
    have hx:=HXR.out
    rw[List.take_length] at hcl hd ho hx
    have PLW:=yeb (fun x hx=>by have:=HALL.out x hx;omega) hcl
    have HX2:=hid hx
    have BW:=hid hd.bel
    have RN:=hid (zwv (E:=E) ls _ wr (SliceIs.ownedK ho) (HE.out.below hd.bel) (by omega) (fun x hx=>by have:=HALL.out x hx;omega))
    rw[PLW] at RN
    clear hcl hd ho hx PLW HD HO HXR HAP HCL
    go_wp2_with fail
    refine RN.out.mono ?_
    rintro e w4⟨r,rfl,hr,b4⟩
    have B4:=hid (zaa BW.out b4)
    have HR:=hid hr
    have ST:=zk2 _ _ (SP.zero.docRun ls) (SP.zero.docRun ls) w4 (by have:=SliceIs.ownedK hr;unfold zbw at this;exact this) (by have:=SliceIs.ownedK (zad HX2.out b4);unfold zbw at this;exact this)
    rw[show(SP.zero.docRun ls==SP.zero.docRun ls)=true from beq_self_eq_true _] at ST
    have ST1:=hid ST
    obtain⟨ra,rc,rfl⟩:=zab hr
    clear b4 RN hr ST
    go_wp2_with fail
    refine ST1.out.mono ?_
    rintro e w5⟨rfl,dr⟩
    have B5:=hid (zaa B4.out (dr.below _))
    clear dr ST1
    go_wp2_with fail
    go_ret
    exact⟨rfl,B5.out⟩
end
end Go.Proofs.YtakhkcaihhpehaaGreatDoor
