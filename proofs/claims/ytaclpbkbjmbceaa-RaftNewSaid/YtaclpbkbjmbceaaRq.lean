/-
  RAFT's data in memory: what can be read, what is owned.
-/
import Derived.Test.YtaclpbkbjmbceaaRl
import Derived.Test.YtaclpbkbjmbceaaEngV
import Derived.Test.YtaclpbkbjmbceaaTys
set_option linter.unusedVariables false
set_option linter.unusedSimpArgs false
set_option maxRecDepth 100000
namespace Go.Proofs.Ytaclpbkbjmbceaa
open Go.Eng
abbrev rowI (x : At Int) : Atom := .row (.slice x.a x.l.length x.c) 3 1 (x.l.map ints)
abbrev rowE (x : At Ent) : Atom := .row (.slice x.a x.l.length x.c) 68 3 (x.l.map Ent.enc)
abbrev rowR (x : At ReadQ) : Atom := .row (.slice x.a x.l.length x.c) 57 4 (x.l.map ReadQ.enc)
abbrev rowM (x : At MsgQ) : Atom := .row (.slice x.a x.l.length x.c) 78 13 (x.l.map MsgQ.enc)
abbrev acksA (l : List ReadQ) : Atom := many (l.map fun x => rowI x.acks)
abbrev entsA (l : List MsgQ) : Atom := many (l.map fun m => rowE m.ents)
abbrev RaftQ.rows (R : RaftQ) : List Atom := [rowE R.log.ents, rowI R.votes, rowI R.next, rowI R.mtch, rowI R.sent, rowR R.reads, acksA R.reads.l]
abbrev raftA (R : RaftQ) : Atom := many R.rows
abbrev readsA (x : At ReadQ) : Atom := many [rowR x, acksA x.l]
abbrev msgsA (x : At MsgQ) : Atom := many [rowM x, entsA x.l]
/-- A step: its state, what it sends. -/
structure StepQ where
  R : RaftQ
  out : At MsgQ
def StepQ.p (s : StepQ) : St1 := (s.R.p, s.out.l.map MsgQ.p)
def StepQ.enc (s : StepQ) : List Value := [.int .i64 s.R.id, .int .i64 s.R.nodes, .int .i64 s.R.role, .int .i64 s.R.term, .int .i64 s.R.vote, .int .i64 s.R.leader, .int .i64 s.R.log.base, .int .i64 s.R.log.baseTerm, s.R.log.ents.v, .string s.R.snap, .int .i64 s.R.commit, .int .i64 s.R.elapsed, .int .i64 s.R.timeout, .int .u64 s.R.seed, s.R.votes.v, s.R.next.v, s.R.mtch.v, s.R.sent.v, .int .i64 s.R.round, s.R.reads.v, .string s.R.part, .int .i64 s.R.partOf, s.out.v]
/-- A state's cells, and what stands behind them. -/
abbrev RaftQ.cells (q : RaftQ) (tl : List Value) : List Value := .int .i64 q.id :: .int .i64 q.nodes :: .int .i64 q.role :: .int .i64 q.term :: .int .i64 q.vote :: .int .i64 q.leader :: .int .i64 q.log.base :: .int .i64 q.log.baseTerm :: q.log.ents.v :: .string q.snap :: .int .i64 q.commit :: .int .i64 q.elapsed :: .int .i64 q.timeout :: .int .u64 q.seed :: q.votes.v :: q.next.v :: q.mtch.v :: q.sent.v :: .int .i64 q.round :: q.reads.v :: .string q.part :: .int .i64 q.partOf :: tl
/-- .. in a block. -/
abbrev blkR (b : Nat) (q : RaftQ) (tl : List Value) (u : TypeId) : Atom := .blk b (q.cells tl) u
abbrev ptrB (b : Nat) : Value := .pointer (some ⟨b, 0, none⟩)
abbrev stepB (b : Nat) (q : RaftQ) (out : At MsgQ) (u : TypeId) : List Atom := [blkR b q [out.v] u, rowM out, entsA out.l]
/-! ### What can be read -/
class ReadsAt (w : World) (F : Nat → Prop) (x : At ReadQ) : Prop where
  sl : Sl w F ReadQ.enc 4 x.l x.a x.c
  acks : ∀ y ∈ x.l, Sl w F ints 1 y.acks.l y.acks.a y.acks.c
class MsgAt (w : World) (F : Nat → Prop) (m : MsgQ) : Prop where
  sl : Sl w F Ent.enc 3 m.ents.l m.ents.a m.ents.c
class MsgsAt (w : World) (F : Nat → Prop) (x : At MsgQ) : Prop where
  sl : Sl w F MsgQ.enc 13 x.l x.a x.c
  ents : ∀ y ∈ x.l, MsgAt w F y
class LogAt (w : World) (F : Nat → Prop) (q : LogQ) : Prop where
  sl : Sl w F Ent.enc 3 q.ents.l q.ents.a q.ents.c
class RaftAt (w : World) (F : Nat → Prop) (R : RaftQ) : Prop where
  log : LogAt w F R.log
  votes : Sl w F ints 1 R.votes.l R.votes.a R.votes.c
  next : Sl w F ints 1 R.next.l R.next.a R.next.c
  mtch : Sl w F ints 1 R.mtch.l R.mtch.a R.mtch.c
  sent : Sl w F ints 1 R.sent.l R.sent.a R.sent.c
  reads : ReadsAt w F R.reads
section
variable {w0 w : World} {F0 F : Nat → Prop} {As Bs Rs : List Atom} {R : RaftQ} {m : MsgQ} {q : LogQ} {x : At ReadQ} {y : At MsgQ}
instance msgAt_sl [h : MsgAt w F m] : Sl w F Ent.enc 3 m.ents.l m.ents.a m.ents.c := h.sl
instance logAt_sl [h : LogAt w F q] : Sl w F Ent.enc 3 q.ents.l q.ents.a q.ents.c := h.sl
instance readsAt_sl [h : ReadsAt w F x] : Sl w F ReadQ.enc 4 x.l x.a x.c := h.sl
instance msgsAt_sl [h : MsgsAt w F y] : Sl w F MsgQ.enc 13 y.l y.a y.c := h.sl
instance raftAt_log [h : RaftAt w F R] : LogAt w F R.log := h.log
instance raftAt_votes [h : RaftAt w F R] : Sl w F ints 1 R.votes.l R.votes.a R.votes.c := h.votes
instance raftAt_next [h : RaftAt w F R] : Sl w F ints 1 R.next.l R.next.a R.next.c := h.next
instance raftAt_mtch [h : RaftAt w F R] : Sl w F ints 1 R.mtch.l R.mtch.a R.mtch.c := h.mtch
instance raftAt_sent [h : RaftAt w F R] : Sl w F ints 1 R.sent.l R.sent.a R.sent.c := h.sent
instance raftAt_reads [h : RaftAt w F R] : ReadsAt w F R.reads := h.reads
instance msgAt_keep [hw : HeapOK w0 F0 As w] [hp : PickC As Bs Rs] [h : MsgAt w0 F0 m] : MsgAt w (fpAll Bs) m := ⟨h.sl.keepP hw hp.h⟩
instance msgsAt_keep [hw : HeapOK w0 F0 As w] [hp : PickC As Bs Rs] [h : MsgsAt w0 F0 y] : MsgsAt w (fpAll Bs) y := ⟨h.sl.keepP hw hp.h, fun z hz => ⟨(h.ents z hz).sl.keepP hw hp.h⟩⟩
instance logAt_keep [hw : HeapOK w0 F0 As w] [hp : PickC As Bs Rs] [h : LogAt w0 F0 q] : LogAt w (fpAll Bs) q := ⟨h.sl.keepP hw hp.h⟩
instance readsAt_keep [hw : HeapOK w0 F0 As w] [hp : PickC As Bs Rs] [h : ReadsAt w0 F0 x] : ReadsAt w (fpAll Bs) x := ⟨h.sl.keepP hw hp.h, fun z hz => (h.acks z hz).keepP hw hp.h⟩
instance raftAt_keep [hw : HeapOK w0 F0 As w] [hp : PickC As Bs Rs] [h : RaftAt w0 F0 R] : RaftAt w (fpAll Bs) R := ⟨⟨h.log.sl.keepP hw hp.h⟩, h.votes.keepP hw hp.h, h.next.keepP hw hp.h, h.mtch.keepP hw hp.h, h.sent.keepP hw hp.h, ⟨h.reads.sl.keepP hw hp.h, fun z hz => (h.reads.acks z hz).keepP hw hp.h⟩⟩
end
section
variable {w0 w : World} {F0 F : Nat → Prop} {As Bs Rs : List Atom} {q : LogQ} {R : RaftQ} {y : At MsgQ} {x : At ReadQ}
instance logAt_row {n : Nat} {el : TypeId} [hw : HeapOK w0 F0 As w] [hp : PickC As Bs Rs] [hr : RowC Rs q.ents.a n q.ents.c el 3 (q.ents.l.map Ent.enc)] [hlen : LenC q.ents.l] : LogAt w (fpAll Bs) q := ⟨Sl.row hw (by decide) hp.h hr.h hlen.h⟩
end
end Go.Proofs.Ytaclpbkbjmbceaa
