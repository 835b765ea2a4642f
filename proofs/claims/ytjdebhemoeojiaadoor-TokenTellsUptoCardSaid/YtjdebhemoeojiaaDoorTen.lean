/-
  Tenants: as they lie in memory, and as they read.
-/
import Derived.Test.YtjdebhemoeojiaaDoorPmLaw
import Derived.Test.YtjdebhemoeojiaaDoorFs
import Derived.Test.YtjdebhemoeojiaaDoorPrCheck
import Derived.Test.YtjdebhemoeojiaaDoorSm
namespace Go.Proofs.YtjdebhemoeojiaaDoor
open Go.RowKit

abbrev BlkT := Int × BS
def encB (x : BlkT) : List Value := [.int .i64 x.1, strV x.2]
def encP (x : BS × BS) : List Value := [strV x.1, strV x.2]
def encS (x : BS) : List Value := [strV x]
def encG (x : GT) : List Value := [strV x.1, strV x.2.1, .int .i64 x.2.2]
structure SnapR where
  nm : BS
  gd : Int
  body : FS BlkT
  tags : FS BS
  own : FS (BS × BS)
def encSnap (x : SnapR) : List Value := [strV x.nm, .int .i64 x.gd, x.body.val, x.tags.val, x.own.val]
structure SetR where
  path : BS
  org : BS
  body : FS BlkT
  snaps : FS SnapR
  own : FS (BS × BS)
def encSet (x : SetR) : List Value := [strV x.path, strV x.org, x.body.val, x.snaps.val, x.own.val]
structure StageR where
  into : BS
  kind : Int
  nm : BS
  frm : Int
  gd : Int
  own : FS (BS × BS)
  ix : Int
  ct : Int
  dt : BS
  sm : Sm
  body : FS BlkT
  at_ : Int
  nx : Int
  sum : Sm
  done : Bool
def smV (s : Sm) : List Value := [.int .u64 s.a, .int .u64 s.b, .int .u64 s.c, .int .u64 s.d]
def encStage (x : StageR) : List Value :=
  [strV x.into, .int .i64 x.kind, strV x.nm, .int .i64 x.frm, .int .i64 x.gd, x.own.val, .int .i64 x.ix, .int .i64 x.ct, strV x.dt] ++ smV x.sm ++ [x.body.val, .int .i64 x.at_, .int .i64 x.nx] ++ smV x.sum ++ [.bool x.done]
structure EntryR where
  user : BS
  kind : Int
  path : BS
  err : Int
def encEntry (x : EntryR) : List Value := [strV x.user, .int .i64 x.kind, strV x.path, .int .i64 x.err]
structure TenR where
  nm : BS
  quota : Int
  next : Int
  sets : FS SetR
  grants : FS GT
  stages : FS StageR
  log : FS EntryR
def TenR.cells (t : TenR) : List Value := [strV t.nm, .int .i64 t.quota, .int .i64 t.next, t.sets.val, t.grants.val, t.stages.val, t.log.val]
def TenR.val (t : TenR) : Value := .agg t.cells.toArray
structure SnapR.rd (w : World) (B : Nat) (x : SnapR) : Prop where
  body : x.body.rd w B 2 encB
  tags : x.tags.rd w B 1 encS
  own : x.own.rd w B 2 encP
structure SetR.rd (w : World) (B : Nat) (x : SetR) : Prop where
  body : x.body.rd w B 2 encB
  snaps : x.snaps.rd w B 5 encSnap
  each : ∀ y ∈ x.snaps.l, y.rd w B
  own : x.own.rd w B 2 encP
structure StageR.rd (w : World) (B : Nat) (x : StageR) : Prop where
  own : x.own.rd w B 2 encP
  body : x.body.rd w B 2 encB
structure TenR.rd (w : World) (B : Nat) (t : TenR) : Prop where
  sets : t.sets.rd w B 5 encSet
  eachS : ∀ y ∈ t.sets.l, y.rd w B
  grants : t.grants.rd w B 3 encG
  stages : t.stages.rd w B 21 encStage
  eachG : ∀ y ∈ t.stages.l, y.rd w B
  log : t.log.rd w B 4 encEntry
/-! ### sizes -/
structure SnapR.sz (x : SnapR) : Prop where
  nm : x.nm.length ≤ 4000000000
  body : x.body.n ≤ 1000000000000
  tags : x.tags.n ≤ 1000000000000
  each : ∀ t ∈ x.tags.l, t.length ≤ 4000000000
  own : x.own.n ≤ 1000000000000
  props : ∀ p ∈ x.own.l, p.1.length ≤ 4000000000 ∧ p.2.length ≤ 4000000000
structure SetR.sz (x : SetR) : Prop where
  path : x.path.length ≤ 4000000000
  org : x.org.length ≤ 4000000000
  body : x.body.n ≤ 1000000000000
  snaps : x.snaps.n ≤ 1000000000000
  each : ∀ y ∈ x.snaps.l, y.sz
  own : x.own.n ≤ 1000000000000
  props : ∀ p ∈ x.own.l, p.1.length ≤ 4000000000 ∧ p.2.length ≤ 4000000000
structure StageR.sz (x : StageR) : Prop where
  into : x.into.length ≤ 4000000000
  nm : x.nm.length ≤ 4000000000
  dt : x.dt.length ≤ 4000000000
  own : x.own.n ≤ 1000000000000
  props : ∀ p ∈ x.own.l, p.1.length ≤ 4000000000 ∧ p.2.length ≤ 4000000000
  body : x.body.n ≤ 1000000000000
structure EntryR.sz (x : EntryR) : Prop where
  user : x.user.length ≤ 4000000000
  path : x.path.length ≤ 4000000000
structure TenR.sz (t : TenR) : Prop where
  nm : t.nm.length ≤ 4000000000
  sets : t.sets.n ≤ 1000000000000
  eachS : ∀ y ∈ t.sets.l, y.sz
  grants : t.grants.n ≤ 1000000000000
  eachG : ∀ g ∈ t.grants.l, g.1.length ≤ 4000000000 ∧ g.2.1.length ≤ 4000000000
  stages : t.stages.n ≤ 1000000000000
  eachT : ∀ y ∈ t.stages.l, y.sz
  log : t.log.n ≤ 1000000000000
  eachL : ∀ y ∈ t.log.l, y.sz
end Go.Proofs.YtjdebhemoeojiaaDoor
