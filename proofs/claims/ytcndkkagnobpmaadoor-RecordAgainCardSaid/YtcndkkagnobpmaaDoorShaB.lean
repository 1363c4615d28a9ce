/-
  SHA-256's rounds on words that are numbers: the plain mirror.
-/
import Derived.Test.YtcndkkagnobpmaaDoorSha3
namespace Go.Proofs.YtcndkkagnobpmaaDoor
open Go.RowKit
set_option linter.unusedVariables false

/-- the eight words of a state -/
structure St where
  a : Int
  b : Int
  c : Int
  d : Int
  e : Int
  f : Int
  g : Int
  h : Int
def St.isW (s : St) : Prop := Go.Proofs.YtcndkkagnobpmaaDoor.isW s.a ∧ Go.Proofs.YtcndkkagnobpmaaDoor.isW s.b ∧ Go.Proofs.YtcndkkagnobpmaaDoor.isW s.c ∧ Go.Proofs.YtcndkkagnobpmaaDoor.isW s.d ∧ Go.Proofs.YtcndkkagnobpmaaDoor.isW s.e ∧ Go.Proofs.YtcndkkagnobpmaaDoor.isW s.f ∧ Go.Proofs.YtcndkkagnobpmaaDoor.isW s.g ∧ Go.Proofs.YtcndkkagnobpmaaDoor.isW s.h
def add32 (x y : Int) : Int := (x + y) % 4294967296
def andI (x y : Int) : Int := bits .and .u32 x y
def chI (e f g : Int) : Int := xorI (andI e f) (andI (bits .xor .u32 4294967295 e) g)
def majI (a b c : Int) : Int := xorI (xorI (andI a b) (andI a c)) (andI b c)
def big1 (e : Int) : Int := xorI (xorI (rotI e 6) (rotI e 11)) (rotI e 25)
def big0 (a : Int) : Int := xorI (xorI (rotI a 2) (rotI a 13)) (rotI a 22)
def t1I (s : St) (k w : Int) : Int := add32 (add32 (add32 (add32 s.h (big1 s.e)) (chI s.e s.f s.g)) k) w
def t2I (s : St) : Int := add32 (big0 s.a) (majI s.a s.b s.c)
def roundI (s : St) (k w : Int) : St := ⟨add32 (t1I s k w) (t2I s), s.a, s.b, s.c, add32 s.d (t1I s k w), s.e, s.f, s.g⟩
def roundsN (s : St) (W : List Int) : Nat → St
  | 0 => s
  | t + 1 => roundI (roundsN s W t) (kL.getD t 0) (W.getD t 0)
def blockI (s : St) (b : List UInt8) : St :=
  let r := roundsN s (schedN b 64) 64
  ⟨add32 s.a r.a, add32 s.b r.b, add32 s.c r.c, add32 s.d r.d, add32 s.e r.e, add32 s.f r.f, add32 s.g r.g, add32 s.h r.h⟩
end Go.Proofs.YtcndkkagnobpmaaDoor
