/- A disk and a journal over it, without memory: what the functions of the journal do to them. -/
import Derived.Test.YtondomklkapogaaDoorJFile
namespace Go.Proofs.YtondomklkapogaaDoor
open Go.RowKit SeedP Go.Maps
/-- a disk: its power and its two files -/
structure DS where
  pw : Int
  f0 : List UInt8
  f1 : List UInt8
/-- a journal over a disk -/
structure JS where
  d : DS
  down : Bool
  file : Bool
  c : Cont
def DS.get (d : DS) (f : Bool) : List UInt8 := if f then d.f1 else d.f0
def DS.put (d : DS) (f : Bool) (l : List UInt8) : DS := if f then ⟨d.pw, d.f0, l⟩ else ⟨d.pw, l, d.f1⟩
def dCut (f : Bool) (n : Nat) (d : DS) : DS × Bool :=
  if (d.get f).length = n then (d, true) else if d.pw = 0 then (d, false)
  else ((DS.mk (if 0 < d.pw then d.pw - 1 else d.pw) d.f0 d.f1).put f ((d.get f).take n), true)
def dWrite (f : Bool) (b : List UInt8) (d : DS) : DS × Bool :=
  if d.pw < 0 then (d.put f (d.get f ++ b), true)
  else if (b.length : Int) ≤ d.pw then ((DS.mk (d.pw - b.length) d.f0 d.f1).put f (d.get f ++ b), true)
  else ((DS.mk 0 d.f0 d.f1).put f (d.get f ++ b.take d.pw.toNat), false)
def blockB (sum : Int) (code : List UInt8) : List UInt8 := numB code.length 4 ++ numB sum.toNat 8 ++ code
def entB (e : List UInt8 × List UInt8) : List UInt8 := UInt8.ofNat e.1.length :: e.1 ++ numB e.2.length 2 ++ e.2
def stateB (gen : Nat) (P : PEnts) : List UInt8 := numB gen 8 ++ numB P.length 4 ++ P.flatMap entB
def compactFile (s : JS) : Bool := if s.c.gen = 0 then false else !s.file
def jCompact (s : JS) : JS × Bool :=
  let code := stateB (s.c.gen + 1) s.c.ents
  match dCut (compactFile s) 0 s.d with
  | (d1, false) => (⟨d1, s.down, s.file, s.c⟩, false)
  | (d1, true) => match dWrite (compactFile s) (blockB (subI 0 code) code) d1 with
    | (d2, false) => (⟨d2, s.down, s.file, s.c⟩, false)
    | (d2, true) => (⟨d2, s.down, compactFile s, ⟨s.c.gen + 1, s.c.ents, s.c.wt, subI 0 code, 12 + code.length⟩⟩, true)
def overfullP (s : JS) (n : Nat) : Bool := decide (262144 < s.c.ed + 12 + n)
def jDo1 (s : JS) : JS × Bool := if s.c.gen = 0 then jCompact s else (s, true)
def jDo2 (s : JS) : JS × Bool := if s.c.ed < (s.d.get s.file).length then (⟨(dCut s.file s.c.ed s.d).1, s.down, s.file, s.c⟩, (dCut s.file s.c.ed s.d).2) else (s, true)
def jDo3 (n : Nat) (s : JS) : JS × Bool := if overfullP s n then jCompact s else (s, true)
def jDo4 (cs : List Chg) (s : JS) : JS × Bool :=
  let code := codeOf cs
  match dWrite s.file (blockB (subI s.c.sum code) code) s.d with
  | (d2, false) => (⟨d2, s.down, s.file, s.c⟩, false)
  | (d2, true) => (⟨d2, s.down, s.file, ⟨s.c.gen, pChgs s.c.ents cs, pWAfter s.c.ents s.c.wt cs, subI s.c.sum code, s.c.ed + 12 + code.length⟩⟩, true)
def jThen (r : JS × Bool) (k : JS → JS × Bool) : JS × Bool := if r.2 then k r.1 else r
def jDo (cs : List Chg) (s : JS) : JS × Bool := jThen (jThen (jThen (jDo1 s) jDo2) (jDo3 (codeOf cs).length)) (jDo4 cs)
def jPowered (r : JS × Bool) : JS × Int := if r.2 then (r.1, 0) else (⟨r.1.d, true, r.1.file, r.1.c⟩, 360)
def jCommit (cs : List Chg) (s : JS) : JS × Int :=
  if s.down then (s, 360)
  else if cs.length = 0 ∨ 64 < cs.length then (s, 5)
  else if validP cs ≠ 0 then (s, validP cs)
  else if (cs.any fun c => c.drop && !(pFind s.c.ents c.key).isSome) = true then (s, 6)
  else if 131072 < pWAfter s.c.ents s.c.wt cs ∨ (s.c.gen = 4611686018427387904 ∧ overfullP s (codeOf cs).length = true) then (s, 4)
  else jPowered (jDo cs s)
def jCompactOp (s : JS) : JS × Int := if s.down then (s, 360) else if s.c.gen = 4611686018427387904 then (s, 4) else jPowered (jCompact s)
/-- what holds of a journal that Open has returned, whatever was done with it -/
structure JS.Ok (s : JS) : Prop where
  pw0 : -1 ≤ s.d.pw
  pw1 : s.d.pw ≤ 9223372036854775807
  f0 : s.d.f0.length ≤ 262144
  f1 : s.d.f1.length ≤ 262144
  apart : (keysOf s.c.ents).Nodup
  wt : s.c.wt = pWt s.c.ents
  max : s.c.wt ≤ 131072
  gen : s.c.gen ≤ 4611686018427387904
  ed : s.c.ed ≤ 262144
  sum0 : 0 ≤ s.c.sum
  sum1 : s.c.sum ≤ 18446744073709551615
end Go.Proofs.YtondomklkapogaaDoor
