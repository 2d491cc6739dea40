/- Messages in plain Lean: fields, bytes, what may be. No program in sight. -/
import Derived.Test.YtebdmfmadbikaaaDoorFieldsMath
namespace Go.Proofs.YtebdmfmadbikaaaDoor.Wi
open Fds

/-- A message. -/
structure Msg where
  kind : Nat
  frm : Int
  to_ : Int
  req : Int
  key : List UInt8
  ver : Int
  inc : Int
  size : Int
  code : Int
  node : Int
  back : Bool
  ids : List (List UInt8 × Int)
  nodes : List Int
  data : List UInt8

/-- The fields of a kind, by their numbers. -/
def flds : Nat → List Nat
  | 1 => [0, 1, 4]
  | 2 => [0, 1]
  | 3 => [0, 1]
  | 4 => [0, 2]
  | 5 => [0, 2]
  | 6 => [0, 5]
  | 7 => [1, 2, 10]
  | 8 => [1, 2]
  | 9 => [1, 2, 10]
  | 10 => [1, 2]
  | 12 => [3, 8]
  | 13 => [1, 2, 3]
  | 14 => [1, 2, 3]
  | 15 => [1, 2, 3, 7, 9]
  | 16 => [3]
  | 17 => [1, 2]
  | 18 => [1, 2, 9]
  | 19 => [1, 2, 6]
  | 20 => [1, 2, 6, 10]
  | _ => []
def isK (k : Nat) : Bool := decide (1 ≤ k) && decide (k ≤ 20)
/-- The fields as bits. -/
def mask (k : Nat) : Nat := if isK k then (flds k).foldl (fun s f => s + 2 ^ f) 2048 else 0
theorem flds_over {k : Nat} (h : isK k = false) : flds k = [] := by
  unfold isK at h
  match k with
  | 0 => rfl
  | 1 | 2 | 3 | 4 | 5 | 6 | 7 | 8 | 9 | 10 | 11 | 12 | 13 | 14 | 15 | 16 | 17 | 18 | 19 | 20 => simp at h
  | k + 21 => rfl
theorem mask_lt (k : Nat) (h : k < 21) : mask k < 65536 := by
  have : ∀ k < 21, mask k < 65536 := by decide
  exact this k h
theorem mask_zero (k : Nat) : mask k = 0 ↔ isK k = false := by
  unfold mask
  split
  · rename_i h
    have : ∀ k < 21, isK k = true → ¬ (flds k).foldl (fun s f => s + 2 ^ f) 2048 = 0 := by decide
    have hk : k < 21 := by simp [isK] at h; omega
    simp [this k hk h, h]
  · rename_i h; simp at h; simp [h]

/-- What of a message stands in these fields alone. -/
def keep (m : Msg) (fs : List Nat) : Msg where
  kind := m.kind
  frm := m.frm
  to_ := m.to_
  req := if 0 ∈ fs then m.req else 0
  key := if 1 ∈ fs then m.key else []
  ver := if 2 ∈ fs then m.ver else 0
  inc := if 3 ∈ fs then m.inc else 0
  size := if 4 ∈ fs then m.size else 0
  code := if 5 ∈ fs then m.code else 0
  node := if 6 ∈ fs then m.node else 0
  back := if 7 ∈ fs then m.back else false
  ids := if 8 ∈ fs then m.ids else []
  nodes := if 9 ∈ fs then m.nodes else []
  data := if 10 ∈ fs then m.data else []

/-- Are two messages the same? -/
def same (a b : Msg) : Bool :=
  decide (a.ids = b.ids) && decide (a.nodes = b.nodes) && decide (a.data = b.data) && decide (a.kind = b.kind) && decide (a.frm = b.frm) && decide (a.to_ = b.to_) && decide (a.req = b.req) && decide (a.key = b.key) && decide (a.ver = b.ver) && decide (a.inc = b.inc) && decide (a.size = b.size) && decide (a.code = b.code) && decide (a.node = b.node) && decide (a.back = b.back)
theorem same_iff (a b : Msg) : same a b = true ↔ a = b := by
  cases a; cases b
  simp [same]
  constructor
  · rintro ⟨⟨⟨⟨⟨⟨⟨⟨⟨⟨⟨⟨⟨h1, h2⟩, h3⟩, h4⟩, h5⟩, h6⟩, h7⟩, h8⟩, h9⟩, h10⟩, h11⟩, h12⟩, h13⟩, h14⟩
    exact ⟨h4, h5, h6, h7, h8, h9, h10, h11, h12, h13, h14, h1, h2, h3⟩
  · rintro ⟨h4, h5, h6, h7, h8, h9, h10, h11, h12, h13, h14, h1, h2, h3⟩
    exact ⟨⟨⟨⟨⟨⟨⟨⟨⟨⟨⟨⟨⟨h1, h2⟩, h3⟩, h4⟩, h5⟩, h6⟩, h7⟩, h8⟩, h9⟩, h10⟩, h11⟩, h12⟩, h13⟩, h14⟩
theorem same_refl (a : Msg) : same a a = true := (same_iff a a).2 rfl
/-- Is a number from 0 to one? -/
def wi (top x : Int) : Bool := decide (0 ≤ x) && decide (x ≤ top)
def long : Int := 4611686018427387904
def idOk (x : List UInt8 × Int) : Bool := decide (x.1.length ≤ 64) && wi long x.2
/-- May a message be? -/
def may (m : Msg) : Bool :=
  isK m.kind && same m (keep m (flds m.kind)) && (wi 65535 m.frm && wi 65535 m.to_ && wi 65535 m.code) && (wi long m.req && wi long m.ver && wi long m.inc) && wi 2147483647 m.size && wi 254 m.node
    && decide (m.key.length ≤ 64) && decide (m.ids.length ≤ 64) && decide (m.nodes.length ≤ 255) && decide (m.data.length ≤ 65536) && m.ids.all idOk && m.nodes.all (wi 254)

def txt (s : List UInt8) : List UInt8 := be 1 s.length ++ s
/-- A field's bytes. -/
def fb (m : Msg) : Nat → List UInt8
  | 0 => be 8 m.req.toNat
  | 1 => txt m.key
  | 2 => be 8 m.ver.toNat
  | 3 => be 8 m.inc.toNat
  | 4 => be 4 m.size.toNat
  | 5 => be 2 m.code.toNat
  | 6 => be 2 m.node.toNat
  | 7 => be 1 (if m.back then 1 else 0)
  | 8 => be 1 m.ids.length ++ m.ids.flatMap fun x => txt x.1 ++ be 8 x.2.toNat
  | 9 => be 1 m.nodes.length ++ m.nodes.flatMap fun n => be 2 n.toNat
  | 10 => be 4 m.data.length ++ m.data
  | _ => []
def head (m : Msg) : List UInt8 := be 1 m.kind ++ be 2 m.frm.toNat ++ be 2 m.to_.toNat
def bytes (m : Msg) : List UInt8 := head m ++ (flds m.kind).flatMap (fb m)

/-- Reading: the first bytes, and the rest. -/
def cut (n : Nat) (l : List UInt8) : Option (List UInt8 × List UInt8) := if n ≤ l.length then some (l.take n, l.drop n) else none
def rnum (n : Nat) (l : List UInt8) : Option (Nat × List UInt8) := (cut n l).map fun p => (num p.1, p.2)
/-- A number of eight bytes with its sign. -/
def sgn (n : Nat) : Int := if n < 9223372036854775808 then (n : Int) else (n : Int) - 18446744073709551616
def rtxt (l : List UInt8) : Option (List UInt8 × List UInt8) := (rnum 1 l).bind fun p => cut p.1 p.2
def rid (l : List UInt8) : Option ((List UInt8 × Int) × List UInt8) := (rtxt l).bind fun p => (rnum 8 p.2).map fun q => ((p.1, sgn q.1), q.2)
def rids : Nat → List UInt8 → Option (List (List UInt8 × Int) × List UInt8)
  | 0, l => some ([], l)
  | n + 1, l => (rid l).bind fun p => (rids n p.2).map fun q => (p.1 :: q.1, q.2)
def rnodes : Nat → List UInt8 → Option (List Int × List UInt8)
  | 0, l => some ([], l)
  | n + 1, l => (rnum 2 l).bind fun p => (rnodes n p.2).map fun q => ((p.1 : Int) :: q.1, q.2)
/-- A field, read. -/
def rf (m : Msg) (l : List UInt8) : Nat → Option (Msg × List UInt8)
  | 0 => (rnum 8 l).map fun p => ({ m with req := sgn p.1 }, p.2)
  | 1 => (rtxt l).map fun p => ({ m with key := p.1 }, p.2)
  | 2 => (rnum 8 l).map fun p => ({ m with ver := sgn p.1 }, p.2)
  | 3 => (rnum 8 l).map fun p => ({ m with inc := sgn p.1 }, p.2)
  | 4 => (rnum 4 l).map fun p => ({ m with size := (p.1 : Int) }, p.2)
  | 5 => (rnum 2 l).map fun p => ({ m with code := (p.1 : Int) }, p.2)
  | 6 => (rnum 2 l).map fun p => ({ m with node := (p.1 : Int) }, p.2)
  | 7 => (rnum 1 l).bind fun p => if p.1 ≤ 1 then some ({ m with back := decide (p.1 = 1) }, p.2) else none
  | 8 => (rnum 1 l).bind fun p => (rids p.1 p.2).map fun q => ({ m with ids := m.ids ++ q.1 }, q.2)
  | 9 => (rnum 1 l).bind fun p => (rnodes p.1 p.2).map fun q => ({ m with nodes := m.nodes ++ q.1 }, q.2)
  | 10 => (rnum 4 l).bind fun p => (cut p.1 p.2).map fun q => ({ m with data := q.1 }, q.2)
  | _ => some (m, l)
def rfs : List Nat → Msg → List UInt8 → Option (Msg × List UInt8)
  | [], m, l => some (m, l)
  | f :: fs, m, l => (rf m l f).bind fun p => rfs fs p.1 p.2
def msg0 (k : Nat) (a b : Int) : Msg := { kind := k, frm := a, to_ := b, req := 0, key := [], ver := 0, inc := 0, size := 0, code := 0, node := 0, back := false, ids := [], nodes := [], data := [] }
def rhead (l : List UInt8) : Option (Msg × List UInt8) := (rnum 1 l).bind fun p => (rnum 2 p.2).bind fun q => (rnum 2 q.2).map fun r => (msg0 p.1 (q.1 : Int) (r.1 : Int), r.2)
def rall (l : List UInt8) : Option (Msg × List UInt8) := (rhead l).bind fun p => rfs (flds p.1.kind) p.1 p.2
def get (l : List UInt8) : Option Msg := (rall l).bind fun p => if p.2.length = 0 ∧ may p.1 = true then some p.1 else none
end Go.Proofs.YtebdmfmadbikaaaDoor.Wi
