/- The examples of chapter 18 hold. -/
import Derived.Test.YtjpelifafmkdpaaDkLs
import Derived.Lib.SlBytesConst
namespace Go.Proofs.Ytjpelifafmkdpaa.DkW
open Go.RowKit Go.Shelf Mem Rng
set_option linter.unusedVariables false

theorem i64_0 : I64 0 := ⟨by decide, by decide⟩
theorem rowB {w : World} {base : Nat} {A : Option Addr} {l : List UInt8} (h : Row w base A (l.map u8v)) : Bytes w w.heap.size A l := h.cells
def wk0 : DS := DS.new 2
def wk1 : DS := (wk0.write 0 [65, 66]).1
def wk2 : DS := wk1.sync.1
def wk3 : DS := (wk2.write 0 [99, 100]).1
def wk4 : DS := wk3.crash
def wk5 : DS := wk4.on [1]
def wk6 : DS := wk4.on []
theorem convB {w : World} {B : Option Addr} {l : List UInt8} {M : Nat} (h : Bytes w M B l) (n c : Nat) (hn : n = l.length) : (convert 23 9 (.slice B n c)).run Try.prog w = .ok (.string (str l)) w := by
  subst hn; exact run_str w 23 5 Try.underlying23 Try.underlying5 h c 9 Try.underlying9
theorem lit2 (w : World) (x y : UInt8) : Bytes (w.alloc (.cells #[.int .u8 (x.toNat : Int), .int .u8 (y.toNat : Int)] 5 (2, 3))) (w.alloc (.cells #[.int .u8 (x.toNat : Int), .int .u8 (y.toNat : Int)] 5 (2, 3))).heap.size (some ⟨w.heap.size, 0, none⟩) [x, y] := Bytes.new w [x, y] 5 (2, 3) _ rfl _ (by simp)
theorem lit1 (w : World) (x : UInt8) : Bytes (w.alloc (.cells #[.int .u8 (x.toNat : Int)] 5)) (w.alloc (.cells #[.int .u8 (x.toNat : Int)] 5)).heap.size (some ⟨w.heap.size, 0, none⟩) [x] := Bytes.new w [x] 5 (0, 0) _ rfl _ (by simp)
theorem Row.keepFr {w w' : World} {X : Nat → Prop} {base g : Nat} {xs : List Value} (h : Row w base (some ⟨g, 0, none⟩) xs) (hf : Fr (fun k => ¬ X k) w w') (hX : X g) : Row w' base (some ⟨g, 0, none⟩) xs := Row.frX h hf fun g' e _ hn => hn (by injection e with e; injection e with e; rw [← e]; exact hX)
set_option maxRecDepth 100000 in
set_option maxHeartbeats 8000000 in
theorem works_any (w : World) : Calls Try.prog 10 #[] w fun e w' => e = .returned (.bool true) ∧ Below w.heap.size w w' := by
  have hcv := fun (w : World) (C : Array Value) (n c : Nat) => Lib.run_convert_bytes_const (P := Try.prog) w 23 5 C n c Try.underlying23 Try.underlying5
  go_enter Try.func10, Try.ntmps10
  go_wp2_with fail
  refine (dnew (DSt.start w) 2).mono ?_
  rintro e w1 ⟨p, rfl, h, hb⟩
  have H1 := Lib.hid (show DSt w [(p, wk0)] (fun _ => False) _ from h.keep (nextA (Mem.start w1) (.cells #[.int .u8 65, .int .u8 66] 5 (2, 3))))
  have HL := Lib.hid (lit2 w1 65 66)
  clear h hb
  go_wp2_with fail
  have hc := dwrite H1.out (i := 0) rfl 0 i64_0 _ [65, 66] 2 2 rfl HL.out (by decide)
  rw [show (wk0.write 0 [65, 66]).2 = 0 from by decide +kernel] at hc
  refine hc.mono ?_
  clear hc
  rintro e w2 ⟨rfl, h, hf⟩
  have H2 := Lib.hid (show DSt w [(p, wk1)] (fun _ => False) _ from h)
  clear h hf HL
  go_wp2_with fail
  have hc := dsync H2.out (i := 0) rfl (by decide)
  rw [show wk1.sync.2 = 0 from by decide +kernel] at hc
  refine hc.mono ?_
  clear hc
  rintro e w3 ⟨rfl, h, hf⟩
  have H3 := Lib.hid (show DSt w [(p, wk2)] (fun _ => False) _ from DSt.keep h (nextA (Mem.start w3) (.cells #[.int .u8 99, .int .u8 100] 5 (2, 3))))
  have HL := Lib.hid (lit2 w3 99 100)
  clear h hf
  go_wp2_with fail
  have hc := dwrite H3.out (i := 0) rfl 0 i64_0 _ [99, 100] 2 2 rfl HL.out (by decide)
  rw [show (wk2.write 0 [99, 100]).2 = 0 from by decide +kernel] at hc
  refine hc.mono ?_
  clear hc
  rintro e w4 ⟨rfl, h, hf⟩
  have H4 := Lib.hid (show DSt w [(p, wk3)] (fun _ => False) _ from h)
  clear h hf HL
  go_wp2_with fail
  refine (dcrash H4.out (i := 0) rfl).mono ?_
  rintro e w5 ⟨rfl, h, hf⟩
  have H5 := Lib.hid (show DSt w [(p, wk4)] (fun _ => False) _ from h)
  clear h hf
  go_wp2_with fail
  refine (dcopy H5.out (i := 0) rfl).mono ?_
  rintro e w6 ⟨q, rfl, h, hf⟩
  have H6 := Lib.hid (show DSt w [(p, wk4), (q, wk4)] (fun _ => False) _ from DSt.keep h (nextA (Mem.start w6) (.cells #[.int .u8 1] 5)))
  have HL := Lib.hid (lit1 w6 1)
  clear h hf
  go_wp2_with fail
  refine (don H6.out (i := 0) rfl _ [1] 1 1 rfl HL.out (by decide)).mono ?_
  rintro e w7 ⟨rfl, h, hf⟩
  have H7 := Lib.hid (show DSt w [(p, wk5), (q, wk4)] (fun _ => False) _ from h)
  clear h hf HL
  go_wp2_with fail
  refine (don H7.out (i := 1) rfl none [] 0 0 rfl Bytes.nil (by decide)).mono ?_
  rintro e w8 ⟨rfl, h, hf⟩
  have H8 := Lib.hid (show DSt w [(p, wk5), (q, wk6)] (fun _ => False) _ from h)
  clear h hf
  go_wp2_with fail
  refine (dread2 H8.out (i := 0) rfl 0 i64_0 (by decide +kernel)).mono ?_
  rintro e w9 ⟨g, rfl, hr, hl, h, hb⟩
  have H9 := Lib.hid (And.intro hr h)
  clear h hb hr hl
  go_wp2_with fail
  refine (dread2 H9.out.2 (i := 1) rfl 0 i64_0 (by decide +kernel)).mono ?_
  rintro e w10 ⟨g', rfl, hr, hl, h, hb⟩
  have hc1 := convB (l := [99, 66, 0]) (by have := (rowB (H9.out.1.keep hb)).take 3; rwa [show (wk5.N 0).take 3 = [99, 66, 0] from by decide +kernel] at this) 3 256 rfl
  have hc2 := convB (l := [65, 66, 0]) (by have := (rowB hr).take 3; rwa [show (wk6.N 0).take 3 = [65, 66, 0] from by decide +kernel] at this) 3 256 rfl
  have hs1 : ((str [99, 66, 0]).toList == [99, 66, 0]) = true := by rw [str_toList]; decide
  have hs2 : ((str [65, 66, 0]).toList == [65, 66, 0]) = true := by rw [str_toList]; decide
  have HB := Lib.hid h.below
  clear h hb hr hl
  go_wp2_with fail
  go_ret
  exact ⟨rfl, HB.out⟩
end Go.Proofs.Ytjpelifafmkdpaa.DkW
