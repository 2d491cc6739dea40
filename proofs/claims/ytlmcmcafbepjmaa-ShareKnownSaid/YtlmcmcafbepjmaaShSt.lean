/- A share: as a plain value, in memory; whether it may be; SameBytes. -/
import Derived.Test.YtlmcmcafbepjmaaFieldsStg
import Derived.Test.YtlmcmcafbepjmaaCrcRef
import Derived.Test.YtlmcmcafbepjmaaHeldG
import Derived.Test.YtlmcmcafbepjmaaMk
import Derived.IntWalk
namespace Go.Proofs.Ytlmcmcafbepjmaa.ShW
open Go.RowKit Go.Shelf Mem Fds
set_option linter.unusedVariables false

/-- A share, plain. -/
structure Sh where
  key : List UInt8
  ver : Int
  node : Int
  row : List UInt8
def Sh.may (s : Sh) : Bool := decide (1 ≤ s.key.length ∧ s.key.length ≤ 64 ∧ 1 ≤ s.ver ∧ 0 ≤ s.node ∧ s.node < 255 ∧ s.row.length ≤ 65536)
def Sh.body (s : Sh) : List UInt8 := be 1 s.key.length ++ s.key ++ be 8 s.ver.toNat ++ be 1 s.node.toNat ++ be 4 s.row.length ++ s.row
def Sh.put (s : Sh) : List UInt8 := s.body ++ be 4 (Crc.sum s.body).toNat
/-- A share in memory: where its bytes lie. -/
structure Sm where
  s : Sh
  A : Option Addr
  c : Nat
  B : Option Addr
  d : Nat
def Sm.cells (x : Sm) : Array Value := #[.slice x.A x.s.key.length x.c, .int .i64 x.s.ver, .int .i64 x.s.node, .slice x.B x.s.row.length x.d]
structure Sm.good (x : Sm) (w : World) : Prop where
  key : Bytes w w.heap.size x.A x.s.key
  row : Bytes w w.heap.size x.B x.s.row
  caps : x.s.key.length ≤ x.c ∧ x.s.row.length ≤ x.d
  big : x.c ≤ maxLen ∧ x.d ≤ maxLen
  ver : -9223372036854775808 ≤ x.s.ver ∧ x.s.ver ≤ 9223372036854775807
  node : -9223372036854775808 ≤ x.s.node ∧ x.s.node ≤ 9223372036854775807
theorem Sm.good.keep {x : Sm} {w w' : World} (h : x.good w) (hb : Below w.heap.size w w') : x.good w' := ⟨(h.key.below hb).up hb.size, (h.row.below hb).up hb.size, h.caps, h.big, h.ver, h.node⟩
theorem convB {w : World} {B : Option Addr} {l : List UInt8} {M : Nat} (h : Bytes w M B l) (n c : Nat) (hn : n = l.length) : (convert 22 9 (.slice B n c)).run Try.prog w = .ok (.string (str l)) w := by
  subst hn; exact run_str w 22 5 Try.underlying22 Try.underlying5 h c 9 Try.underlying9
theorem str_beq (a b : List UInt8) : ((str a).toList == (str b).toList) = decide (a = b) := by
  rw [str_toList, str_toList, Bool.eq_iff_iff, beq_iff_eq, decide_eq_true_iff]
theorem sameBytes_any (w : World) (A B : Option Addr) (a b : List UInt8) (n c m d M N : Nat) (hn : a.length = n) (hm : b.length = m) (hA : Bytes w M A a) (hB : Bytes w N B b) :
    Calls Try.prog 13 #[.slice A n c, .slice B m d] w fun e w' => e = .returned (.bool (decide (a = b))) ∧ w = w' := by
  have h1 := convB hA n c hn.symm
  have h2 := convB hB m d hm.symm
  have h3 := str_beq a b
  obtain ⟨x, hx⟩ : ∃ x, str a = x := ⟨_, rfl⟩
  obtain ⟨y, hy⟩ : ∃ y, str b = y := ⟨_, rfl⟩
  rw [hx] at h1 h3
  rw [hy] at h2 h3
  have H3 := Lib.hid h3
  clear hx hy hA hB hn hm h3
  go_enter Try.func13, Try.ntmps13
  go_wp2_with fail
  go_ret
  refine ⟨?_, rfl⟩
  rw [← H3.out]; rfl
def Sh.few (s : Sh) : Bool := decide (s.key.length ≤ 100 ∧ s.row.length ≤ 400)
end Go.Proofs.Ytlmcmcafbepjmaa.ShW
