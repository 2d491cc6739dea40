/- The walks of package fields' readers: the methods, Raw, Open. -/
import Derived.Test.YtlmcmcafbepjmaaFieldsGet
namespace Go.Proofs.Ytlmcmcafbepjmaa.FdW
open Go.RowKit Mem Fds
set_option linter.unusedVariables false

set_option maxHeartbeats 400000 in
theorem rbyte_any (w : World) (base p : Nat) (A : Option Addr) (c : Nat) (l : List UInt8) (k : Nat) (f : Bool) (h : Rd w base p A c l k f) :
    Calls Try.prog 44 #[.pointer (some ⟨p, 0, none⟩)] w (GetOk .u8 w base p A c l k f 1) := by
  go_enter Try.func44, Try.ntmps44
  go_wp2_with fail
  refine (get8_any w base p A c l k f h).mono ?_
  rintro e w1 ⟨rfl, hr⟩
  have HR := Lib.hid hr
  clear hr
  generalize hq : num (got l k f 1) = q
  have HQ := Lib.hid hq
  clear hq
  go_wp2_with fail
  go_ret
  exact ⟨by rw [HQ.out]; rfl, HR.out⟩

set_option maxHeartbeats 400000 in
theorem rword_any (w : World) (base p : Nat) (A : Option Addr) (c : Nat) (l : List UInt8) (k : Nat) (f : Bool) (h : Rd w base p A c l k f) :
    Calls Try.prog 46 #[.pointer (some ⟨p, 0, none⟩)] w (GetOk .u32 w base p A c l k f 4) := by
  go_enter Try.func46, Try.ntmps46
  go_wp2_with fail
  refine (get32_any w base p A c l k f h).mono ?_
  rintro e w1 ⟨rfl, hr⟩
  have HR := Lib.hid hr
  clear hr
  generalize hq : num (got l k f 4) = q
  have HQ := Lib.hid hq
  clear hq
  go_wp2_with fail
  go_ret
  exact ⟨by rw [HQ.out]; rfl, HR.out⟩

set_option maxHeartbeats 400000 in
theorem rlong_any (w : World) (base p : Nat) (A : Option Addr) (c : Nat) (l : List UInt8) (k : Nat) (f : Bool) (h : Rd w base p A c l k f) :
    Calls Try.prog 45 #[.pointer (some ⟨p, 0, none⟩)] w (GetOk .u64 w base p A c l k f 8) := by
  go_enter Try.func45, Try.ntmps45
  go_wp2_with fail
  refine (get64_any w base p A c l k f h).mono ?_
  rintro e w1 ⟨rfl, hr⟩
  have HR := Lib.hid hr
  clear hr
  generalize hq : num (got l k f 8) = q
  have HQ := Lib.hid hq
  clear hq
  go_wp2_with fail
  go_ret
  exact ⟨by rw [HQ.out]; rfl, HR.out⟩

/-- What Raw leaves. -/
def RawOk (w : World) (base p : Nat) (A : Option Addr) (c : Nat) (l : List UInt8) (k : Nat) (f : Bool) (n : Int) (e : Ending) (w' : World) : Prop :=
  ∃ A' c', e = .returned (.slice A' (got l k f n).length c') ∧ Own w' w.heap.size 5 A' c' ((got l k f n).map u8v) ∧ Rd w' base p A c l (goes l k f n) (bad l k f n) ∧ Fr (fun i => i = p) w w'
theorem got_le (l : List UInt8) (k : Nat) (f : Bool) (n : Int) : (got l k f n).length ≤ l.length := by
  unfold got; split
  · simp
  · simp; omega
set_option maxHeartbeats 400000 in
theorem rraw_any (w : World) (base p : Nat) (A : Option Addr) (c : Nat) (l : List UInt8) (k : Nat) (f : Bool) (n : Int) (h : Rd w base p A c l k f) :
    Calls Try.prog 43 #[.pointer (some ⟨p, 0, none⟩), .int .i64 n] w (RawOk w base p A c l k f n) := by
  have hfew := h.few
  go_enter Try.func43, Try.ntmps43
  go_wp2_with fail
  refine (cut_any w base p A c l k f n h).mono ?_
  rintro e w1 ⟨A1, m, c1, rfl, hm, hB, hr, hfr⟩
  subst hm
  have HR := Lib.hid (And.intro hr hfr)
  clear hr hfr
  have hle := got_le l k f n
  have hpost : ∀ A' c' w2, Own w2 w1.heap.size 5 A' c' ((got l k f n).map u8v) → Below w1.heap.size w1 w2 → RawOk w base p A c l k f n (.returned (.slice A' (got l k f n).length c')) w2 := by
    intro A' c' w2 ho hb
    exact ⟨A', c', rfl, ho.down HR.out.2.size, HR.out.1.keep hb, HR.out.2.trans (Fr.quiet (S := fun _ => False) hb) fun _ _ h => h.elim⟩
  have HP := Lib.hid hpost
  clear hpost HR
  generalize got l k f n = bs at *
  go_wp2_with fail
  refine (clone_any w1 A1 bs bs.length c1 rfl (by omega) hB).mono ?_
  rintro e w2 ⟨A2, c2, rfl, ho, hb⟩
  have HO := Lib.hid (And.intro ho hb)
  clear ho hb
  go_wp2_with fail
  go_ret
  exact HP.out _ _ _ HO.out.1 HO.out.2

/-- What Open leaves: a reader in new memory. -/
def OpenOk (w : World) (l : List UInt8) (e : Ending) (w' : World) : Prop :=
  ∃ p A c, e = .returned (.pointer (some ⟨p, 0, none⟩)) ∧ Rd w' w.heap.size p A c l 0 false ∧ Below w.heap.size w w'
set_option maxHeartbeats 400000 in
theorem open_any (w : World) (A : Option Addr) (l : List UInt8) (n c : Nat) (hn : n = l.length) (hlen : n ≤ 10000000) (hA : Bytes w w.heap.size A l) :
    Calls Try.prog 41 #[.slice A n c] w (OpenOk w l) := by
  subst hn
  go_enter Try.func41, Try.ntmps41
  go_wp2_with fail
  refine (clone_any w A l l.length c rfl (by omega) hA).mono ?_
  rintro e w1 ⟨A1, c1, rfl, ho, hb⟩
  have HO := Lib.hid (And.intro ho hb)
  clear ho hb
  go_wp2_with fail
  go_ret
  refine ⟨w1.heap.size, A1, c1, rfl, ⟨Blk.new w1 _ _, HO.out.1.alloc _, HO.out.2.size, Nat.zero_le _, by omega⟩, nextA HO.out.2 _⟩
end Go.Proofs.Ytlmcmcafbepjmaa.FdW
