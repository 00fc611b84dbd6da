/- Texts of one proof, one behind the other: XferPlain. -/
import Derived.Test.YtdpoalbbcmkceaaGreatDoorB41
import Derived.Test.YtdpoalbbcmkceaaGreatDoorB40
import Derived.Test.YtdpoalbbcmkceaaGreatDoorB38
import Derived.Test.YtdpoalbbcmkceaaGreatDoorB37
import Derived.Test.YtdpoalbbcmkceaaGreatDoorB23
import Derived.Test.YtdpoalbbcmkceaaGreatDoorB25
import Derived.Test.YtdpoalbbcmkceaaGreatDoorB26
import Derived.Test.YtdpoalbbcmkceaaGreatDoorB30
import Derived.Test.YtdpoalbbcmkceaaGreatDoorB31
/- The plain model of a transfer: what the destination knows, what is under way, and what each deed makes of it. No program is in sight. -/
namespace Go.Proofs.YtdpoalbbcmkceaaGreatDoor
open Go.RowKit
set_option linter.unusedVariables false

structure XS where
  fr : List PF
  tt : List PF
  ge : Nat
  net : List (List UInt8 × Bool)
  ep : Nat
  sq : Nat
  ask : PFr
  age : Nat
  W : Int
  L : Int
  T : Int
  G : Int
  ln : List PL
  kn : Bool
  fu : List (List UInt8)
  dn : Bool
namespace XS
/-- a frame put into the net -/
def put (f : PFr) (x : XS) : XS := if frC f = 0 then { x with net := x.net ++ [(frT f, false)] } else x
/-- the source is asked -/
def asks (k : UInt8) (d : List UInt8) (x : XS) : XS := put ⟨k, x.ep, x.sq, d⟩ { x with ask := ⟨k, x.ep, x.sq, d⟩, sq := (x.sq + 1) % 65536, age := 0 }
/-- what is there of a file -/
def old (n : List UInt8) (x : XS) : List UInt8 := if x.fu.contains n then [] else (fgetL x.tt n).getD []
/-- a name and a text, one behind the other -/
def two (a b : List UInt8) : List UInt8 := (num a.length ++ a) ++ (num b.length ++ b)
/-- a file is asked for -/
def want (n : List UInt8) (x : XS) : XS := asks 103 (two n (sText (blks (sizeN (x.old n).length) (x.old n)) (sizeN (x.old n).length))) x
/-- what the destination does now -/
def next (x : XS) : XS :=
  if x.kn = false then asks 108 [] x
  else match (planL x.ln (x.tt.map PF.line)).find? (fun s => s.k == kSend) with
    | some s => want s.n x
    | none => { x with tt := dropsTo (planL x.ln (x.tt.map PF.line)) x.tt, dn := true, ask := zfr }
def listed (d : List UInt8) (x : XS) : XS := if (readLn d).2 = 0 then { x with ln := (readLn d).1, kn := true } else x
/-- room for a file -/
def room (x : XS) : List PF := if 20 ≤ x.tt.length then x.tt.filter fun f => x.ln.any fun y => y.n == f.n else x.tt
def gave (n : List UInt8) (ops : List POp) (y : PL) (x : XS) : XS :=
  if (whC (x.old n) (sizeN (x.old n).length) ops y.N y.S).1 ≠ 0 then { x with fu := n :: x.fu }
  else if (putF x.room n (whL (x.old n) (sizeN (x.old n).length) ops y.N y.S)).1 = 0 then { x with tt := fputL x.room n (whL (x.old n) (sizeN (x.old n).length) ops y.N y.S) } else x
def given (d : List UInt8) (x : XS) : XS :=
  if rEnd (rtR (rtR d 0) (rtC d 0)) (rtC (rtR d 0) (rtC d 0)) ≠ 0 then x
  else if (readO (rtT (rtR d 0) (rtC d 0))).2 ≠ 0 then x
  else match x.ln.find? (fun y => y.n == rtT d 0) with
    | none => x
    | some y => gave (rtT d 0) (readO (rtT (rtR d 0) (rtC d 0))).1 y x
def good (x : XS) : XS := { x with W := goodW x.W x.L x.G, T := 2, G := goodG x.W x.L x.G }
def bad (x : XS) : XS := { x with W := 1, L := badL x.W, T := badT x.T, G := 0 }
/-- a frame that came to the destination -/
def answered (f : PFr) (x : XS) : XS :=
  if x.dn = true ∨ x.ask.k = 0 ∨ f.q ≠ x.ask.q ∨ x.ge = 0 ∨ f.e ≠ x.ge then x
  else next (if f.k = 109 then listed f.d x.good else given f.d x.good)
/-- the source's answer to a request for a file -/
def ansG (f : PFr) (x : XS) : XS :=
  if rEnd (rtR (rtR f.d 0) (rtC f.d 0)) (rtC (rtR f.d 0) (rtC f.d 0)) ≠ 0 then x
  else if (readSg (rtT (rtR f.d 0) (rtC f.d 0))).2.2 ≠ 0 then x
  else match fgetL x.fr (rtT f.d 0) with
    | none => x
    | some data =>
      let ops := mkOps (readSg (rtT (rtR f.d 0) (rtC f.d 0))).1 (readSg (rtT (rtR f.d 0) (rtC f.d 0))).2.1 data
      if (dtC ops).1 = 0 then put ⟨111, f.e, f.q, two (rtT f.d 0) (dtL ops)⟩ x else x
def answer (f : PFr) (x : XS) : XS := if f.k = 108 then put ⟨109, f.e, f.q, flText (x.fr.map PF.line)⟩ x else ansG f x
/-- a packet comes -/
def come (k : Nat) (x : XS) : XS :=
  match x.net[k]? with
  | none => x
  | some p =>
    let y := { x with net := x.net.eraseIdx k }
    if (decF p.1).2 ≠ 0 then y
    else if (decF p.1).1.k = 108 ∨ (decF p.1).1.k = 103 then answer (decF p.1).1 y else answered (decF p.1).1 y
def tick (x : XS) : XS :=
  if x.dn = true ∨ x.ask.k = 0 then x
  else if x.T ≤ ((x.age + 1 : Nat) : Int) then put x.ask { x with age := 0 }.bad else { x with age := x.age + 1 }
/-- a bit of a text is turned -/
def flip (s : List UInt8) (q : Nat) : List UInt8 := s.set (q % (8 * s.length) / 8) ((s[q % (8 * s.length) / 8]?.getD 0) ^^^ (1 <<< UInt8.ofNat (q % (8 * s.length) % 8)))
def turn (q : Nat) (x : XS) : XS :=
  match x.net with
  | [] => x
  | p :: r => if p.2 = true then x else { x with net := (flip p.1 q, true) :: r }
def begins (x : XS) : XS :=
  if x.dn = true then x
  else if 2147483648 ≤ x.ge then x
  else next { x with ge := x.ge + 1, ep := x.ge + 1, sq := 0, ask := zfr, age := 0, W := 1, L := 32, T := 2, G := 0, ln := [], kn := false, fu := [] }
def start (fr t : List PF) : XS := begins ⟨fr, t, 0, [], 0, 0, zfr, 0, 1, 32, 2, 0, [], false, [], false⟩
/-- a number is done -/
def act (v : Int) (x : XS) : XS :=
  if v < 0 then x
  else
    let k := v.toNat % 8; let q := v.toNat / 8
    if k = 6 then x.tick else if k = 7 then x.begins
    else if x.net = [] then x
    else if k < 3 then x.come (q % x.net.length)
    else if k = 3 then { x with net := x.net.eraseIdx (q % x.net.length) }
    else if k = 4 then (if x.net.length < 500 then { x with net := x.net ++ (x.net[q % x.net.length]?).toList } else x)
    else x.turn q
/-- packets come, the first ones first -/
def comes : Nat → XS → XS
  | 0, x => x
  | n + 1, x => if x.net = [] then x else comes n (x.come 0)
def fin : Nat → XS → XS
  | 0, x => x
  | n + 1, x => if x.dn = true then x else fin n (comes x.net.length x).tick
end XS
end Go.Proofs.YtdpoalbbcmkceaaGreatDoor
