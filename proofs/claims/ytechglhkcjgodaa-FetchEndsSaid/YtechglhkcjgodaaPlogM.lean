/- plog: the model. -/
import Derived.Test.YtechglhkcjgodaaWords
namespace Go.Proofs.Ytechglhkcjgodaa

/-- A record. -/
structure Rec where
  p : Int
  e : Int
  t : Int
  s : Int
  v : List (BitVec 8)
  deriving DecidableEq
/-- A transaction. -/
structure Spn where
  p : Int
  e : Int
  t : Int
  f : Int
  k : Int
  deriving DecidableEq
/-- A log: records, transactions, epochs (-1: not known). -/
structure PL where
  recs : List Rec
  spans : List Spn
  eps : List Int
namespace PL
def isProd (p e : Int) : Bool := decide (0 ≤ p) && decide (p < 8) && decide (0 ≤ e) && decide (e ≤ 100)
def isTxn (t : Int) : Bool := decide (1 ≤ t) && decide (t ≤ 100)
def isRec (r : Rec) : Bool := isProd r.p r.e && isTxn r.t && decide (0 ≤ r.s) && decide (r.s ≤ 1048576) && decide (r.v.length ≤ 200)
def empty : PL := ⟨[], [], List.replicate 8 (-1)⟩
def ep (m : PL) (p : Int) : Int := m.eps.getD p.toNat (-1)
/-- Learn. -/
def learn (m : PL) (p e : Int) : PL × Int := if isProd p e then ({ m with eps := m.eps.set p.toNat (max (m.ep p) e) }, 0) else (m, 1)
/-- Where a transaction stands. -/
def spanAt (m : PL) (p e t : Int) : Int := match m.spans.findIdx? (fun s => decide (s.p = p) && decide (s.e = e) && decide (s.t = t)) with
  | some i => i
  | none => -1
/-- Where a record of a number stands. -/
def againAt (m : PL) (r : Rec) : Int := match m.recs.findIdx? (fun x => decide (x.p = r.p) && decide (x.e = r.e) && decide (x.s = r.s)) with
  | some i => i
  | none => -1
/-- The next number of a producer and epoch. -/
def nextSeq (m : PL) (p e : Int) : Int := match (m.recs.filter (fun x => decide (x.p = p) && decide (x.e = e))).getLast? with
  | some x => x.s + 1
  | none => 0
/-- Is the transaction ended, or is another one open? -/
def barred (m : PL) (p e t : Int) : Bool := m.spans.any fun s => decide (s.p = p) && decide (s.e = e) && (decide (s.t = t) == decide (s.k ≠ 0))
/-- Append. -/
def append (m : PL) (r : Rec) : PL × Int × Int :=
  if isRec r = false then (m, 0, 1) else
  if m.ep r.p < 0 then (m, 0, 4) else
  if r.e < m.ep r.p then (m, 0, 5) else
  if r.e > m.ep r.p then (m, 0, 6) else
  match m.recs.findIdx? (fun x => decide (x.p = r.p) && decide (x.e = r.e) && decide (x.s = r.s)) with
  | some i => if (m.recs.getD i r).t = r.t ∧ (m.recs.getD i r).v = r.v then (m, i, 0) else (m, 0, 1)
  | none =>
    if r.s ≠ m.nextSeq r.p r.e then (m, 0, 8) else
    if m.barred r.p r.e r.t then (m, 0, 6) else
    if 128 ≤ m.recs.length then (m, 0, 3) else
    ({ m with recs := m.recs ++ [r], spans := if m.spanAt r.p r.e r.t < 0 then m.spans ++ [⟨r.p, r.e, r.t, m.recs.length, 0⟩] else m.spans }, m.recs.length, 0)
/-- End. -/
def endd (m : PL) (p e t : Int) (c : Bool) : PL × Int :=
  if (isProd p e && isTxn t) = false then (m, 1) else
  match m.spans.findIdx? (fun s => decide (s.p = p) && decide (s.e = e) && decide (s.t = t)) with
  | none => ({ m with spans := m.spans ++ [⟨p, e, t, -1, if c then 2 else 3⟩] }, 0)
  | some i => if (m.spans.getD i ⟨0, 0, 0, 0, 0⟩).k ≠ 0 ∧ (m.spans.getD i ⟨0, 0, 0, 0, 0⟩).k ≠ (if c then 2 else 3) then (m, 6)
    else ({ m with spans := m.spans.modify i (fun s => { s with k := if c then 2 else 3 }) }, 0)
/-- The first record of a transaction that is open. -/
def stable (m : PL) : Int := m.spans.foldl (fun a s => if s.k = 0 then min a s.f else a) m.recs.length
end PL
end Go.Proofs.Ytechglhkcjgodaa
