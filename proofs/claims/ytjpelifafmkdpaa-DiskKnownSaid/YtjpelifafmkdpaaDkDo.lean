/- The law's helper does. -/
import Derived.Test.YtjpelifafmkdpaaDkLd
namespace Go.Proofs.Ytjpelifafmkdpaa.DkW
open Go.RowKit Go.Shelf Mem Rng
set_option linter.unusedVariables false

def DoesOk (w0 : World) (p q : Nat) (s : DS) (e : Ending) (w' : World) : Prop := e = .returned (.bool true) ∧ ∃ t, LSd w0 [(p, t)] q t (fun _ => False) w' ∧ t.steps ≤ s.steps + 1
theorem DS.step_steps_le (s : DS) (f : DS → DS) (hf : ∀ t : DS, (f t).steps = t.steps) : (s.step f).1.steps ≤ s.steps + 1 := by
  unfold DS.step
  split
  · exact Nat.le_refl _
  · rw [hf]; exact Nat.le_refl _
theorem DS.write_steps (s : DS) (i : Int) (l : List UInt8) : (s.write i l).1.steps ≤ s.steps + 1 := by
  unfold DS.write
  split
  · exact Nat.le_succ _
  · exact DS.step_steps_le _ id fun _ => rfl
theorem DS.sync_steps (s : DS) : s.sync.1.steps ≤ s.steps + 1 := by
  unfold DS.sync
  split
  · exact Nat.le_succ _
  · exact DS.step_steps_le _ DS.settle fun _ => rfl
theorem DS.on_steps (s : DS) (f : List UInt8) : (s.on f).steps = s.steps := by
  unfold DS.on
  split <;> rfl
def xc (x : Open.OneD) : Array Value := #[.int .u8 (x.k.toNat : Int), .int .i64 x.i, .int .i64 x.n, .slice x.A x.b.length x.c]
section
variable {w0 w : World} {p q : Nat} {s : DS}
set_option maxRecDepth 100000 in
set_option maxHeartbeats 8000000 in
theorem does_rest (h : LSd w0 [(p, s)] q s (fun _ => False) w) (hs : s.steps + 1 ≤ 256 ^ 3) (kk : Nat) (i n : Int) (A : Option Addr) (l : List UInt8) (m c : Nat) (hx : Bytes w0 w0.heap.size A l) (hm : l.length = m) (hlen : m ≤ 300) (hi : I64 i) (hn : I64 n) (hk : 2 ≤ kk) (hk2 : kk ≤ 255) :
    Calls Try.prog 27 #[.pointer (some ⟨p, 0, none⟩), .pointer (some ⟨q, 0, none⟩), .agg #[.int .u8 (kk : Int), .int .i64 i, .int .i64 n, .slice A m c]] w (DoesOk w0 p q s) := by
  have hbx : Blk (w.alloc (.cells #[.int .u8 (kk : Int), .int .i64 i, .int .i64 n, .slice A m c] 52)) w.heap.size 52 #[.int .u8 (kk : Int), .int .i64 i, .int .i64 n, .slice A m c] := Blk.new w _ _
  have H1 := Lib.hid ((h.more (Z := fun k => k = w.heap.size) (nextA (Mem.start w) (.cells #[.int .u8 (kk : Int), .int .i64 i, .int .i64 n, .slice A m c] 52)) (fun k hk => by subst hk; exact ⟨Nat.le_refl _, by rw [World.size_alloc]; exact Nat.lt_succ_self _⟩)).less (Z := fun k => k = w.heap.size) (fun k hk => .inr hk))
  have HX := Lib.hid (And.intro hx hm)
  have HS := Lib.hid hs
  have HBX := Lib.hid hbx
  have HN := Lib.hid (show ∀ i, (s.N i).length = 256 from fun i => h.lenN (i := 0) rfl i)
  have hn2 := hn.2
  clear h hx hm hs hbx hi hn
  have hr : kk = 2 ∨ kk = 3 ∨ kk = 4 ∨ kk = 5 ∨ 6 ≤ kk := by omega
  rcases hr with rfl | rfl | rfl | rfl | hr
  · go_enter Try.func27, Try.ntmps27
    go_wp2_with fail
    refine (lsync H1.out (i := 0) rfl HS.out).mono ?_
    rintro e w2 ⟨rfl, h2, f2⟩
    have H2 := Lib.hid (show LSd w0 [(p, s.sync.1)] q s _ w2 from h2)
    clear h2 f2
    go_wp2_with fail
    refine (lrsync H2.out HN.out HS.out).mono ?_
    rintro e w3 ⟨rfl, h3, f3⟩
    have H3 := Lib.hid h3
    clear h3 f3
    obtain ⟨v, hv⟩ : ∃ v, s.sync.2 = v := ⟨_, rfl⟩
    rw [hv]
    clear hv
    go_wp2_with fail
    go_ret
    refine ⟨by simp, _, H3.out.less (fun _ h => h.elim), DS.sync_steps s⟩
  · go_enter Try.func27, Try.ntmps27
    go_wp2_with fail
    refine (lfail H1.out (i := 0) rfl n hn2).mono ?_
    rintro e w2 ⟨rfl, h2, f2⟩
    have H2 := Lib.hid (show LSd w0 [(p, s.fail n)] q s _ w2 from h2)
    have hd2 : w2.cell? ⟨w.heap.size, 2, none⟩ = some (.int .i64 n) := (HBX.out.fr f2 (fun h => h rfl)).cell 2
    clear h2 f2
    go_wp2_with fail
    refine (lrfail H2.out n hn2).mono ?_
    rintro e w3 ⟨rfl, h3, f3⟩
    have H3 := Lib.hid h3
    clear h3 f3 hd2
    go_wp2_with fail
    go_ret
    exact ⟨rfl, _, H3.out.less (fun _ h => h.elim), Nat.le_succ _⟩
  · go_enter Try.func27, Try.ntmps27
    go_wp2_with fail
    refine (lcrash H1.out (i := 0) rfl).mono ?_
    rintro e w2 ⟨rfl, h2, f2⟩
    have H2 := Lib.hid (show LSd w0 [(p, s.crash)] q s _ w2 from h2)
    clear h2 f2
    go_wp2_with fail
    refine (lrcrash H2.out).mono ?_
    rintro e w3 ⟨rfl, h3, f3⟩
    have H3 := Lib.hid h3
    clear h3 f3
    go_wp2_with fail
    go_ret
    exact ⟨rfl, _, H3.out.less (fun _ h => h.elim), Nat.le_succ _⟩
  · go_enter Try.func27, Try.ntmps27
    go_wp2_with fail
    refine (lon H1.out (i := 0) rfl A l m c HX.out.2 ((HX.out.1.below H1.out.below).up H1.out.below.size) (by rw [HX.out.2]; omega)).mono ?_
    rintro e w2 ⟨rfl, h2, f2⟩
    have H2 := Lib.hid (show LSd w0 [(p, s.on l)] q s _ w2 from h2)
    have hd2 : w2.cell? ⟨w.heap.size, 3, none⟩ = some (.slice A m c) := (HBX.out.fr f2 (fun h => h rfl)).cell 3
    clear h2 f2
    go_wp2_with fail
    refine (lron H2.out A l m c HX.out.2 (HX.out.1.below H2.out.below)).mono ?_
    rintro e w3 ⟨rfl, h3, f3⟩
    have H3 := Lib.hid h3
    clear h3 f3 hd2
    go_wp2_with fail
    go_ret
    exact ⟨rfl, _, H3.out.less (fun _ h => h.elim), by rw [DS.on_steps]; exact Nat.le_succ _⟩
  · have e0 : ((kk : Int) == 0) = false := by simp; omega
    have e1 : ((kk : Int) == 1) = false := by simp; omega
    have e2 : ((kk : Int) == 2) = false := by simp; omega
    have e3 : ((kk : Int) == 3) = false := by simp; omega
    have e4 : ((kk : Int) == 4) = false := by simp; omega
    have e5 : ((kk : Int) == 5) = false := by simp; omega
    go_enter Try.func27, Try.ntmps27
    go_wp2_with fail
    go_ret
    exact ⟨rfl, _, H1.out.less (fun _ h => h.elim), Nat.le_succ _⟩
end
end Go.Proofs.Ytjpelifafmkdpaa.DkW
