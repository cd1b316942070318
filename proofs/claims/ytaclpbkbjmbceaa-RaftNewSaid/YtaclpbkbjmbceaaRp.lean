/-
  RAFT, PLAINLY: what a state is, what may be, what each step comes to. No program in sight.
-/
import Derived.Test.YtaclpbkbjmbceaaEngU
set_option linter.unusedVariables false
namespace Go.Proofs.Ytaclpbkbjmbceaa
open Go.Eng
/-! ### 1. Data, and data with the places where its lists lie -/
abbrev noB : ByteArray := ⟨#[]⟩
structure At (α : Type) where
  l : List α
  a : Option Addr
  c : Nat
abbrev At.v {α : Type} (x : At α) : Value := .slice x.a x.l.length x.c
structure Ent where
  index : Int
  term : Int
  data : ByteArray
structure Log where
  base : Int
  baseTerm : Int
  ents : List Ent
structure Read where
  id : Int
  index : Int
  round : Int
  acks : List Int
structure Msg where
  kind : Int
  src : Int
  dst : Int
  term : Int
  index : Int
  logTerm : Int
  commit : Int
  round : Int
  ok : Bool
  ents : List Ent
  pos : Int
  data : ByteArray
  done : Bool
structure Raft where
  id : Int
  nodes : Int
  role : Int
  term : Int
  vote : Int
  leader : Int
  log : Log
  snap : ByteArray
  commit : Int
  elapsed : Int
  timeout : Int
  seed : Int
  votes : List Int
  next : List Int
  mtch : List Int
  sent : List Int
  round : Int
  reads : List Read
  part : ByteArray
  partOf : Int
structure LogQ where
  base : Int
  baseTerm : Int
  ents : At Ent
structure ReadQ where
  id : Int
  index : Int
  round : Int
  acks : At Int
structure MsgQ where
  kind : Int
  src : Int
  dst : Int
  term : Int
  index : Int
  logTerm : Int
  commit : Int
  round : Int
  ok : Bool
  ents : At Ent
  pos : Int
  data : ByteArray
  done : Bool
structure RaftQ where
  id : Int
  nodes : Int
  role : Int
  term : Int
  vote : Int
  leader : Int
  log : LogQ
  snap : ByteArray
  commit : Int
  elapsed : Int
  timeout : Int
  seed : Int
  votes : At Int
  next : At Int
  mtch : At Int
  sent : At Int
  round : Int
  reads : At ReadQ
  part : ByteArray
  partOf : Int
abbrev LogQ.p (q : LogQ) : Log := ⟨q.base, q.baseTerm, q.ents.l⟩
abbrev ReadQ.p (q : ReadQ) : Read := ⟨q.id, q.index, q.round, q.acks.l⟩
abbrev MsgQ.p (q : MsgQ) : Msg := ⟨q.kind, q.src, q.dst, q.term, q.index, q.logTerm, q.commit, q.round, q.ok, q.ents.l, q.pos, q.data, q.done⟩
abbrev RaftQ.p (q : RaftQ) : Raft := ⟨q.id, q.nodes, q.role, q.term, q.vote, q.leader, q.log.p, q.snap, q.commit, q.elapsed, q.timeout, q.seed, q.votes.l, q.next.l, q.mtch.l, q.sent.l, q.round, q.reads.l.map ReadQ.p, q.part, q.partOf⟩
abbrev ints (n : Int) : List Value := [.int .i64 n]
def Ent.enc (x : Ent) : List Value := [.int .i64 x.index, .int .i64 x.term, .string x.data]
def LogQ.enc (q : LogQ) : List Value := [.int .i64 q.base, .int .i64 q.baseTerm, q.ents.v]
def ReadQ.enc (q : ReadQ) : List Value := [.int .i64 q.id, .int .i64 q.index, .int .i64 q.round, q.acks.v]
def MsgQ.enc (q : MsgQ) : List Value := [.int .i64 q.kind, .int .i64 q.src, .int .i64 q.dst, .int .i64 q.term, .int .i64 q.index, .int .i64 q.logTerm, .int .i64 q.commit, .int .i64 q.round, .bool q.ok, q.ents.v, .int .i64 q.pos, .string q.data, .bool q.done]
def RaftQ.enc (q : RaftQ) : List Value := [.int .i64 q.id, .int .i64 q.nodes, .int .i64 q.role, .int .i64 q.term, .int .i64 q.vote, .int .i64 q.leader, .int .i64 q.log.base, .int .i64 q.log.baseTerm, q.log.ents.v, .string q.snap, .int .i64 q.commit, .int .i64 q.elapsed, .int .i64 q.timeout, .int .u64 q.seed, q.votes.v, q.next.v, q.mtch.v, q.sent.v, .int .i64 q.round, q.reads.v, .string q.part, .int .i64 q.partOf]
/-! ### 2. What may be -/
def numB (n : Int) : Bool := decide (0 ≤ n) && decide (n ≤ 1099511627775)
def withinB (n lo hi : Int) (l : List Int) : Bool := l.all (fun k => decide (lo ≤ k) && decide (k ≤ hi)) && decide ((l.length : Int) = n)
def risesB : List Int → Bool
  | [] => true
  | a :: r => (match r with | [] => true | b :: _ => decide (a < b)) && risesB r
def risingB (nodes : Int) (l : List Int) : Bool := l.all (fun k => decide (1 ≤ k) && decide (k ≤ nodes)) && risesB l
def goodB (x : Ent) : Bool := decide (1 ≤ x.index) && (decide (x.index ≤ 1099511627776) && (numB x.term && decide ((x.data.size : Int) ≤ 4096)))
def runsB : Int → Int → List Ent → Bool
  | _, _, [] => true
  | i, t, e :: r => goodB e && (decide (e.index = i + 1) && (decide (t ≤ e.term) && runsB e.index e.term r))
def logB (l : Log) : Bool := decide (0 ≤ l.base) && (decide (l.base ≤ 1099511625728) && (numB l.baseTerm && (decide ((l.ents.length : Int) ≤ 512) && runsB l.base l.baseTerm l.ents)))
def Log.endI (l : Log) : Int := match l.ents.getLast? with | some e => e.index | none => l.base
def Log.endT (l : Log) : Int := match l.ents.getLast? with | some e => e.term | none => l.baseTerm
def Log.termAt (l : Log) (i : Int) : Int := if i = l.base then l.baseTerm else if i < l.base then 0 else match l.ents[(i - l.base - 1).toNat]? with | some e => e.term | none => 0
def Log.hasB (l : Log) (i : Int) : Bool := decide (l.base ≤ i) && decide (i ≤ l.endI)
def readB (R : Raft) (x : Read) : Bool := decide (1 ≤ x.id) && (decide (x.id ≤ 1099511627776) && (decide (0 ≤ x.index) && (decide (x.index ≤ R.commit) && (decide (0 ≤ x.round) && (decide (x.round ≤ R.round) && risingB R.nodes x.acks)))))
def emptyB (s : ByteArray) : Bool := s.toList == noB.toList
def Raft.led (R : Raft) : Int := if R.role = 2 then R.nodes else 0
def headB (R : Raft) : Bool := decide (1 ≤ R.nodes) && (decide (R.nodes ≤ 7) && (decide (1 ≤ R.id) && (decide (R.id ≤ R.nodes) && (decide (0 ≤ R.role) && decide (R.role ≤ 2)))))
def voteB (R : Raft) : Bool := numB R.term && (decide (0 ≤ R.vote) && (decide (R.vote ≤ R.nodes) && (decide (0 ≤ R.leader) && (decide (R.leader ≤ R.nodes) && (logB R.log && decide (R.log.endT ≤ R.term))))))
def snapB (R : Raft) : Bool := decide ((R.snap.size : Int) ≤ 524288) && (!(decide (R.log.base = 0) && !emptyB R.snap) && (decide (R.log.base ≤ R.commit) && decide (R.commit ≤ R.log.endI)))
def timeB (R : Raft) : Bool := numB R.elapsed && (numB R.timeout && (numB R.round && risingB R.nodes R.votes))
def leadsB (R : Raft) : Bool := (decide (R.role = 2) || decide (R.reads.length = 0)) && (R.reads.all (readB R) && (decide ((R.reads.length : Int) ≤ 32) && (withinB R.led 1 (R.log.endI + 1) R.next && (withinB R.led 0 R.log.endI R.mtch && withinB R.led 0 R.snap.size R.sent))))
def partB (R : Raft) : Bool := decide ((R.part.size : Int) ≤ 524288) && (decide (0 ≤ R.partOf) && (decide (R.partOf ≤ 1099511625728) && (decide (0 < R.partOf) || emptyB R.part)))
def mayB (R : Raft) : Bool := headB R && (voteB R && (snapB R && (timeB R && (leadsB R && partB R))))
/-! ### 3. Steps -/
def nextU (s : Int) : Int :=
  let a := if s = 0 then 11400714819323198485 else s
  let b := xorI .u64 a (IntKind.u64.wrap (a * 2 ^ min (13 : Int).toNat IntKind.u64.bits))
  let c := xorI .u64 b (b.fdiv (2 ^ min (7 : Int).toNat IntKind.u64.bits))
  xorI .u64 c (IntKind.u64.wrap (c * 2 ^ min (17 : Int).toNat IntKind.u64.bits))
def Raft.draw (R : Raft) : Raft := { R with seed := nextU R.seed, timeout := 10 + (nextU R.seed).tmod 10, elapsed := 0 }
def Raft.alone (R : Raft) : Raft := { R with votes := [], next := [], mtch := [], sent := [], reads := [] }
def Raft.forget (R : Raft) : Raft := { R with part := noB, partOf := 0 }
def Raft.falls (R : Raft) (t : Int) : Raft :=
  if R.term < t then ({ R.alone with role := 0, leader := 0, term := t, vote := 0 } : Raft).forget else { R.alone with role := 0, leader := 0 }
def Raft.new (id nodes seed : Int) : Raft := Raft.draw ⟨id, nodes, 0, 0, 0, 0, ⟨0, 0, []⟩, noB, 0, 0, 0, seed, [], [], [], [], 0, [], noB, 0⟩
def Msg.zero : Msg := ⟨0, 0, 0, 0, 0, 0, 0, 0, false, [], 0, noB, false⟩
def Raft.say (R : Raft) (m : Msg) : Msg := { m with src := R.id, term := R.term }
def Raft.part1 (R : Raft) (k at_ : Int) : Msg :=
  R.say { Msg.zero with kind := 5, dst := k, index := R.log.base, logTerm := R.log.baseTerm, round := R.round, pos := at_, data := R.snap.extract at_.toNat (at_ + min 1024 (R.snap.size - at_)).toNat, done := decide (at_ + min 1024 (R.snap.size - at_) = R.snap.size) }
def Raft.app1 (R : Raft) (k nx : Int) : Msg :=
  R.say { Msg.zero with kind := 3, dst := k, index := nx - 1, logTerm := R.log.termAt (nx - 1), commit := R.commit, round := R.round, ents := (R.log.ents.drop (nx - R.log.base - 1).toNat).take 16 }
def Raft.send (R : Raft) (k : Int) : Msg :=
  if R.next.getD (k - 1).toNat 0 ≤ R.log.base then R.part1 k (R.sent.getD (k - 1).toNat 0) else R.app1 k (R.next.getD (k - 1).toNat 0)
/-- .. for all others, from k on. -/
def Raft.others (R : Raft) (g : Int → List Msg) : Nat → Int → List Msg
  | 0, _ => []
  | n + 1, k => (if k = R.id then [] else g k) ++ R.others g n (k + 1)
def Raft.all (R : Raft) (g : Int → List Msg) : List Msg := R.others g R.nodes.toNat 1
def settledI (l : List Int) : Int := l.foldl (fun best x => if (l.length : Int) < 2 * (l.countP (fun y => decide (x ≤ y)) : Int) then max best x else best) 0
def Raft.settle (R : Raft) : Raft :=
  let m := R.mtch.set (R.id - 1).toNat R.log.endI
  if R.commit < settledI m ∧ R.log.termAt (settledI m) = R.term then { R with mtch := m, commit := settledI m } else { R with mtch := m }
def enoughB (n : Int) (votes : List Int) : Bool := decide (n < 2 * ((List.range n.toNat).countP (fun (i : Nat) => votes.contains ((i : Int) + 1)) : Int))
def Raft.full (R : Raft) : Bool := decide ((R.log.ents.length : Int) = 512) || decide (R.log.endI = 1099511627776)
def Raft.put (R : Raft) (data : ByteArray) : Raft := { R with log := { R.log with ents := R.log.ents ++ [⟨R.log.endI + 1, R.term, data⟩] } }
def Raft.crown (R : Raft) : Raft :=
  { (R.alone.put noB) with role := 2, leader := R.id, elapsed := 0, next := List.replicate R.nodes.toNat (R.log.endI + 1), mtch := List.replicate R.nodes.toNat 0, sent := List.replicate R.nodes.toNat 0 }
abbrev St1 := Raft × List Msg
def leadF (s : St1) : St1 := if s.1.full = true then (s.1.falls s.1.term, s.2) else (s.1.crown.settle, s.2 ++ s.1.crown.all (fun k => [s.1.crown.send k]))
def winsF (s : St1) : St1 := if enoughB s.1.nodes s.1.votes = true then leadF s else s
def Raft.stands (R : Raft) : Raft := (({ R.alone with term := R.term + 1, vote := R.id, role := 1, leader := 0, votes := [R.id] } : Raft).forget).draw
def Raft.ask (R : Raft) (k : Int) : Msg := R.say { Msg.zero with kind := 1, dst := k, index := R.log.endI, logTerm := R.log.endT }
def standF (R : Raft) : St1 := if R.term = 1099511627775 then (R.draw, []) else winsF (R.stands, R.stands.all (fun k => [R.stands.ask k]))
def tickF (R : Raft) : St1 :=
  let R1 : Raft := { R with elapsed := min (R.elapsed + 1) 1099511627775 }
  if R1.role = 2 then
    (if 2 ≤ R1.elapsed then
      let R2 : Raft := { R1 with elapsed := 0, round := min (R1.round + 1) 1099511627775 }
      (R2, R2.all (fun k => [R2.send k]))
    else (R1, []))
  else if R1.elapsed < R1.timeout then (R1, []) else standF R1
end Go.Proofs.Ytaclpbkbjmbceaa
