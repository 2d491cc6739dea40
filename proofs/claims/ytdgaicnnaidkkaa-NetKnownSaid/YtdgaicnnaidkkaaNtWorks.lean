/- The examples of chapter 22 hold. -/
import Derived.Test.YtdgaicnnaidkkaaNtRef2
import Derived.Lib.SlBytesConst
namespace Go.Proofs.Ytdgaicnnaidkkaa.NtW
open Go.RowKit Go.Shelf Mem Rng
set_option linter.unusedVariables false

/-- A net since w0: nothing that was there has turned. -/
def NS (w0 : World) (p most : Nat) (L : List (List UInt8)) (w : World) : Prop := ∃ F, NetA F p most L w ∧ (∀ k, F k → w0.heap.size ≤ k) ∧ Below w0.heap.size w0 w
theorem NetA.keep {F : Nat → Prop} {p most : Nat} {L : List (List UInt8)} {w w' : World} (h : NetA F p most L w) (hb : Below w.heap.size w w') : NetA F p most L w' := by
  obtain ⟨A, c, ms, e, hn⟩ := h; exact ⟨A, c, ms, e, hn.keep hb⟩
section
variable {w0 w w' : World} {p most : Nat} {L : List (List UInt8)}
theorem NS.keep (h : NS w0 p most L w) (hb : Below w.heap.size w w') : NS w0 p most L w' := by
  obtain ⟨F, h1, h2, h3⟩ := h
  exact ⟨F, h1.keep hb, h2, next h3 hb⟩
theorem NS.below (h : NS w0 p most L w) : Below w0.heap.size w0 w := by obtain ⟨_, _, _, h⟩ := h; exact h
theorem NS.turn {F F' : Nat → Prop} {L' : List (List UInt8)} (h2 : ∀ k, F k → w0.heap.size ≤ k) (h3 : Below w0.heap.size w0 w) (k1 : NetA F' p most L' w') (k2 : Grow F F' w) (k3 : Fr F w w') : NS w0 p most L' w' :=
  ⟨F', k1, fun k hk => (k2 k hk).elim (h2 k) (fun h => Nat.le_trans h3.size h), h3.trans (k3.below h3.size h2)⟩
theorem newS (w : World) (most : Int) (m : Nat) (hm : (max 0 (min 100000 most)).toNat = m) : Calls Try.prog 6 #[.int .i64 most] w fun e w' => e = .returned (.pointer (some ⟨w.heap.size, 0, none⟩)) ∧ NS w w.heap.size m [] w' :=
  (new_any w most).mono fun e w' ⟨he, h1, h2, _⟩ => ⟨he, _, by rw [← hm]; exact h1, fun k hk => by rw [hk]; exact Nat.le_refl _, h2⟩
variable (h : NS w0 p most L w)
include h
theorem sendS (B : Option Addr) (l : List UInt8) (n cb : Nat) (hn : n = l.length) (hB : Bytes w w.heap.size B l) :
    Calls Try.prog 7 #[.pointer (some ⟨p, 0, none⟩), .slice B n cb] w fun e w' => e = .returned (.int .i64 (sendE most L l)) ∧ NS w0 p most (sendL most L l) w' := by
  obtain ⟨F, h1, h2, h3⟩ := h
  exact (send_any F p most L w h1 B l n cb hn hB).mono fun e w' ⟨he, F', k1, k2, k3⟩ => ⟨he, NS.turn h2 h3 k1 k2 k3⟩
theorem twiceS (i : Int) : Calls Try.prog 18 #[.pointer (some ⟨p, 0, none⟩), .int .i64 i] w fun e w' => e = .returned (.int .i64 (twiceE most L i)) ∧ NS w0 p most (twiceL most L i) w' := by
  obtain ⟨F, h1, h2, h3⟩ := h
  exact (twice_any F p most L w h1 i).mono fun e w' ⟨he, F', k1, k2, k3⟩ => ⟨he, NS.turn h2 h3 k1 k2 k3⟩
theorem setS (i : Int) (B : Option Addr) (l : List UInt8) (n cb : Nat) (hn : n = l.length) (hB : Bytes w w.heap.size B l) :
    Calls Try.prog 19 #[.pointer (some ⟨p, 0, none⟩), .int .i64 i, .slice B n cb] w fun e w' => e = .returned (.int .i64 (setE L i l)) ∧ NS w0 p most (setL L i l) w' := by
  obtain ⟨F, h1, h2, h3⟩ := h
  exact (set_any F p most L w h1 i B l n cb hn hB).mono fun e w' ⟨he, F', k1, k2, k3⟩ => ⟨he, NS.turn h2 h3 k1 k2 k3⟩
/-- A message taken, as a new row. -/
def GotS (w0 : World) (p most : Nat) (w : World) (L : List (List UInt8)) (v : Option (List UInt8)) (e : Ending) (w' : World) : Prop :=
  ∃ B c, e = .returned (.tuple #[.slice B (v.getD []).length c, .bool v.isSome]) ∧ Mem.Own w' w.heap.size 5 B c ((v.getD []).map u8v) ∧ NS w0 p most L w'
theorem takeS (i : Int) : Calls Try.prog 8 #[.pointer (some ⟨p, 0, none⟩), .int .i64 i] w (GotS w0 p most w (if (atV L i).isSome then L.eraseIdx i.toNat else L) (atV L i)) := by
  obtain ⟨F, h1, h2, h3⟩ := h
  exact (take_any F p most L w h1 i).mono fun e w' ⟨B, c, he, k1, k2, k3⟩ => ⟨B, c, he, k1, NS.turn h2 h3 k2 (fun _ h => .inl h) k3⟩
theorem allS : Calls Try.prog 9 #[.pointer (some ⟨p, 0, none⟩)] w (AllOk w L) := by
  obtain ⟨F, h1, h2, h3⟩ := h
  exact all_any F p most L w h1
theorem lenS : Calls Try.prog 10 #[.pointer (some ⟨p, 0, none⟩)] w fun e w' => e = .returned (.int .i64 (L.length : Int)) ∧ w = w' := by
  obtain ⟨F, h1, h2, h3⟩ := h
  exact len_any F p most L w h1
end
theorem lit1 (w : World) (x : UInt8) : Bytes (w.alloc (.cells #[.int .u8 (x.toNat : Int)] 5 (1, 2))) (w.alloc (.cells #[.int .u8 (x.toNat : Int)] 5 (1, 2))).heap.size (some ⟨w.heap.size, 0, none⟩) [x] := Bytes.new w [x] 5 (1, 2) _ rfl _ (by simp)
theorem convB {w : World} {B : Option Addr} {l : List UInt8} {M : Nat} (h : Bytes w M B l) (n c : Nat) (hn : n = l.length) : (convert 22 9 (.slice B n c)).run Try.prog w = .ok (.string (str l)) w := by
  subst hn; exact run_str w 22 5 Try.underlying22 Try.underlying5 h c 9 Try.underlying9
theorem RowsN.at_ {base : Nat} {A : Option Addr} {c : Nat} {ns : List Ms} {W : World} (h : RowsN base A c ns W) {i : Nat} {n : Ms} (hn : ns[i]? = some n) : ∃ g, A = some ⟨g, 0, none⟩ ∧ base ≤ g ∧ W.cell? ⟨g, i, none⟩ = some n.v ∧ Mem.Own W base 5 n.A n.c (n.l.map u8v) := by
  have hlt : i < ns.length := (List.getElem?_eq_some_iff.1 hn).1
  obtain ⟨g, hA, hg, _, hc, _⟩ := h.own.at_ (k := i) (by rw [List.length_map]; exact hlt)
  refine ⟨g, hA, hg, ?_, h.rows n (List.mem_of_getElem? hn)⟩
  rw [hc, List.getElem_map, (List.getElem?_eq_some_iff.1 hn).2]
theorem map_l {ns : List Ms} {L : List (List UInt8)} (h : ns.map Ms.l = L) {i : Nat} {l : List UInt8} (hl : L[i]? = some l) : ∃ n, ns[i]? = some n ∧ n.l = l := by
  rw [← h, List.getElem?_map] at hl
  cases hn : ns[i]? with
  | none => rw [hn] at hl; cases hl
  | some n => rw [hn] at hl; injection hl with hl; exact ⟨n, rfl, hl⟩
set_option maxRecDepth 100000 in
set_option maxHeartbeats 8000000 in
theorem works_any (w : World) : Calls Try.prog 11 #[] w fun e w' => e = .returned (.bool true) ∧ Below w.heap.size w w' := by
  have hcv := fun (w : World) (C : Array Value) (n c : Nat) => Lib.run_convert_bytes_const (P := Try.prog) w 22 5 C n c Try.underlying22 Try.underlying5
  go_enter Try.func11, Try.ntmps11
  go_wp2_with fail
  refine (newS _ 5 5 rfl).mono ?_
  rintro e w1 ⟨rfl, h⟩
  have H1 := Lib.hid (h.keep (nextA (Mem.start w1) (.cells #[.int .u8 97] 5 (1, 2))))
  have HL := Lib.hid (lit1 w1 97)
  clear h
  go_wp2_with fail
  refine (sendS H1.out _ [97] 1 1 rfl HL.out).mono ?_
  rintro e w2 ⟨rfl, h⟩
  rw [show sendE 5 [] [97] = 0 from by decide]
  rw [show sendL 5 [] [97] = [[97]] from by decide] at h
  have H2 := Lib.hid (h.keep (nextA (Mem.start w2) (.cells #[.int .u8 98] 5 (1, 2))))
  have HM := Lib.hid (lit1 w2 98)
  clear h HL
  go_wp2_with fail
  refine (sendS H2.out _ [98] 1 1 rfl HM.out).mono ?_
  rintro e w3 ⟨rfl, h⟩
  rw [show sendE 5 [[97]] [98] = 0 from by decide]
  rw [show sendL 5 [[97]] [98] = [[97], [98]] from by decide] at h
  have H3 := Lib.hid h
  clear h HM
  go_wp2_with fail
  refine (twiceS H3.out 0).mono ?_
  rintro e w4 ⟨rfl, h⟩
  rw [show twiceE 5 [[97], [98]] 0 = 0 from by decide]
  rw [show twiceL 5 [[97], [98]] 0 = [[97], [98], [97]] from by decide] at h
  have H4 := Lib.hid h
  clear h
  go_wp2_with fail
  refine (takeS H4.out 1).mono ?_
  rw [show atV [[97], [98], [97]] 1 = some [98] from by decide, show (if (some ([98] : List UInt8)).isSome then List.eraseIdx [[97], [98], [97]] (1 : Int).toNat else [[97], [98], [97]]) = ([[97], [97]] : List (List UInt8)) from by decide]
  rintro e w5 ⟨B5, c5, rfl, ho, h⟩
  have H5 := Lib.hid (And.intro ho h)
  clear ho h
  go_wp2_with fail
  refine (allS H5.out.2).mono ?_
  rintro e w6 ⟨A6, c6, ns, rfl, hr, hm, hb⟩
  have hcb : (convert 22 9 (.slice B5 1 c5)).run Try.prog w6 = .ok (.string { data := #[98] }) w6 := convB (H5.out.1.keep hb).bytes 1 c5 rfl
  obtain ⟨n0, hn0, hl0⟩ := map_l hm (i := 0) (l := [97]) rfl
  obtain ⟨n1, hn1, hl1⟩ := map_l hm (i := 1) (l := [97]) rfl
  obtain ⟨g6, rfl, _, hc0, ho0⟩ := hr.at_ hn0
  obtain ⟨g6', hg, _, hc1, ho1⟩ := hr.at_ hn1
  injection hg with hg; injection hg with hg; subst hg
  rw [hl0] at ho0
  rw [hl1] at ho1
  unfold Ms.v at hc0 hc1
  rw [hl0] at hc0
  rw [hl1] at hc1
  have hv0 := convB ho0.bytes 1 n0.c rfl
  have hv1 := convB ho1.bytes 1 n1.c rfl
  rw [show str [97] = { data := #[97] } from rfl] at hv0 hv1
  have H6 := Lib.hid ((H5.out.2.keep hb).keep (nextA (Mem.start w6) (.cells #[.int .u8 99] 5 (1, 2))))
  have HM := Lib.hid (lit1 w6 99)
  clear hr hm hb hn0 hl0 hn1 hl1 ho0 ho1
  go_wp2_with fail
  refine (setS H6.out 1 _ [99] 1 1 rfl HM.out).mono ?_
  rintro e w7 ⟨rfl, h⟩
  rw [show setE [[97], [97]] 1 [99] = 0 from by decide]
  rw [show setL [[97], [97]] 1 [99] = [[97], [99]] from by decide] at h
  have H7 := Lib.hid h
  clear h HM hcb hc0 hc1 hv0 hv1
  go_wp2_with fail
  refine (takeS H7.out 0).mono ?_
  rw [show atV [[97], [99]] 0 = some [97] from by decide, show (if (some ([97] : List UInt8)).isSome then List.eraseIdx [[97], [99]] (0 : Int).toNat else [[97], [99]]) = ([[99]] : List (List UInt8)) from by decide]
  rintro e w8 ⟨B8, c8, rfl, ho, h⟩
  have hcb : (convert 22 9 (.slice B8 1 c8)).run Try.prog w8 = .ok (.string { data := #[97] }) w8 := convB ho.bytes 1 c8 rfl
  have H8 := Lib.hid h
  clear ho h
  go_wp2_with fail
  refine (lenS H8.out).mono ?_
  rintro e w' ⟨rfl, rfl⟩
  go_wp2_with fail
  refine (allS H8.out).mono ?_
  rintro e w9 ⟨A9, c9, ns9, rfl, hr, hm, hb⟩
  obtain ⟨n0, hn0, hl0⟩ := map_l hm (i := 0) (l := [99]) rfl
  obtain ⟨g9, rfl, _, hc0, ho0⟩ := hr.at_ hn0
  rw [hl0] at ho0
  unfold Ms.v at hc0
  rw [hl0] at hc0
  have hv0 := convB ho0.bytes 1 n0.c rfl
  rw [show str [99] = { data := #[99] } from rfl] at hv0
  have H9 := Lib.hid (H8.out.keep hb)
  clear hr hm hb hn0 hl0 ho0
  go_wp2_with fail
  go_ret
  exact ⟨rfl, H9.out.below⟩
end Go.Proofs.Ytdgaicnnaidkkaa.NtW
