/- slices.Collect over points.first; points.Of. -/
import Derived.Test.YtaeoocpiggebmaaPtSeq
namespace Go.Proofs.Ytaeoocpiggebmaa.PtW
open Go.RowKit Go.Shelf Mem Gf FdW Rng
set_option linter.unusedVariables false

set_option maxHeartbeats 2000000 in
theorem collect_any (w : World) (p C0 C1 B0 B1 B2 a s n N : Nat) (hs : 1 ≤ s) (hN : a + s * N ≤ 1000) (hn : n ≤ N) (hn0 : n ≤ 1000) (hF : Fld w p) (hne : B0 ≠ p ∧ B1 ≠ p ∧ B2 ≠ p)
    (hc0 : w.cell? ⟨C0, 0, none⟩ = some (.int .i64 (n : Int))) (hc1 : w.cell? ⟨C1, 0, none⟩ = some (.func (.func 33) #[] #[.pointer (some ⟨B1, 0, none⟩), .pointer (some ⟨B0, 0, none⟩), .pointer (some ⟨B2, 0, none⟩)]))
    (h0 : w.cell? ⟨B0, 0, none⟩ = some (.pointer (some ⟨p, 0, none⟩))) (h1 : w.cell? ⟨B1, 0, none⟩ = some (.int .i64 (a : Int))) (h2 : w.cell? ⟨B2, 0, none⟩ = some (.int .i64 (s : Int))) :
    Calls Try.prog 22 #[.func (.func 32) #[] #[.pointer (some ⟨C0, 0, none⟩), .pointer (some ⟨C1, 0, none⟩)]] w fun e w' =>
      ∃ A' c', e = .returned (.slice A' n c') ∧ Mem.Own w' w.heap.size 5 A' c' (((List.range n).map (pl a s)).map u8v) ∧ Fld w' p ∧ Fr (fun k => k = p) w w' := by
  have HQ := Lib.hid (appendSeq_any w p C0 C1 B0 B1 B2 a s n N hs hN hn hn0 hF w.heap.size (Nat.le_refl _) none [] 0 0 rfl Mem.Own.nil (by simp) (fun k h => by cases h) hne hc0 hc1 h0 h1 h2)
  clear hs hN hn hn0 hF hne hc0 hc1 h0 h1 h2
  go_enter Try.func22, Try.ntmps22
  go_wp2_with fail
  refine HQ.out.mono ?_
  rintro e w1 ⟨A', c', rfl, ho, _, hF1, hf⟩
  rw [show ([] : List UInt8).length + n = n from by simp]
  have H1 := Lib.hid (And.intro ho (And.intro hF1 hf))
  clear ho hF1 hf
  go_wp2_with fail
  go_ret
  exact ⟨A', c', rfl, H1.out.1, H1.out.2.1, H1.out.2.2.mono fun k _ h => h.elim id (fun h => by cases h)⟩

/-- What points.Of leaves. -/
def OfOk (w : World) (p : Nat) (l : List UInt8) (e : Ending) (w' : World) : Prop :=
  ∃ A c, e = .returned (.tuple #[.slice A l.length c, .int .i64 0]) ∧ Mem.Own w' w.heap.size 5 A c (l.map u8v) ∧ Fld w' p ∧ Fr (fun k => k = p) w w'
def OfBad (w : World) (e : Ending) (w' : World) : Prop := e = .returned (.tuple #[.slice none 0 0, .int .i64 2]) ∧ w' = w
def pts (n : Nat) : List UInt8 := (List.range n).map (pl 0 1)
theorem pts_len (n : Nat) : (pts n).length = n := by simp [pts]

set_option maxHeartbeats 2000000 in
theorem of_bad (w : World) (p : Nat) (n : Int) (h : n < 0 ∨ 255 < n) : Calls Try.prog 10 #[fptr (some p), .int .i64 n] w (OfBad w) := by
  have hps : fptr (some p) = .pointer (some ⟨p, 0, none⟩) := rfl
  rw [hps]
  clear hps
  rcases h with h | h
  · go_enter Try.func10, Try.ntmps10
    go_wp2_with fail
    go_ret2
    exact ⟨rfl, rfl⟩
  · have h0 : ¬ n < 0 := by omega
    go_enter Try.func10, Try.ntmps10
    go_wp2_with fail
    go_ret2
    exact ⟨rfl, rfl⟩
set_option maxHeartbeats 2000000 in
theorem of_ok (w : World) (p : Nat) (hF : Fld w p) (n : Nat) (hn : n ≤ 255) : Calls Try.prog 10 #[fptr (some p), .int .i64 (n : Int)] w (OfOk w p (pts n)) := by
  have hps : fptr (some p) = .pointer (some ⟨p, 0, none⟩) := rfl
  have h1 : (n : Int) ≤ 255 := by omega
  have h0 : (0 : Int) ≤ (n : Int) := by omega
  have HF := Lib.hid hF
  have HN := Lib.hid hn
  have HQ := Lib.hid (powers_any w p 0 1)
  rw [hps] at HQ ⊢
  clear hps hF hn
  go_enter Try.func10, Try.ntmps10
  go_wp2_with fail
  refine HQ.out.mono ?_
  rintro e w1 ⟨rfl, rfl⟩
  have b0 := (((Blk.new w 22 #[.pointer (some ⟨p, 0, none⟩)]).alloc (.cells #[.int .i64 0] 3)).alloc (.cells #[.int .i64 1] 3))
  have b1 := (Blk.new (w.alloc (.cells #[.pointer (some ⟨p, 0, none⟩)] 22)) 3 #[.int .i64 0]).alloc (.cells #[.int .i64 1] 3)
  have b2 := Blk.new ((w.alloc (.cells #[.pointer (some ⟨p, 0, none⟩)] 22)).alloc (.cells #[.int .i64 0] 3)) 3 #[.int .i64 1]
  have hf1 : Fld (((w.alloc (.cells #[.pointer (some ⟨p, 0, none⟩)] 22)).alloc (.cells #[.int .i64 0] 3)).alloc (.cells #[.int .i64 1] 3)) p := HF.out.keep (nextA (nextA (nextA (Mem.start w) _) _) _)
  have hb1 := nextA (nextA (nextA (Mem.start w) (.cells #[.pointer (some ⟨p, 0, none⟩)] 22)) (.cells #[.int .i64 0] 3)) (.cells #[.int .i64 1] 3)
  have hs1 : (((w.alloc (.cells #[.pointer (some ⟨p, 0, none⟩)] 22)).alloc (.cells #[.int .i64 0] 3)).alloc (.cells #[.int .i64 1] 3)).heap.size = w.heap.size + 3 := by simp
  rw [World.size_alloc] at b1
  rw [World.size_alloc, World.size_alloc] at b2
  have H1 := Lib.hid (And.intro b0 (And.intro b1 (And.intro b2 (And.intro hf1 (And.intro hb1 hs1)))))
  clear b0 b1 b2 hf1 hb1 hs1 HQ
  generalize ((w.alloc (.cells #[.pointer (some ⟨p, 0, none⟩)] 22)).alloc (.cells #[.int .i64 0] 3)).alloc (.cells #[.int .i64 1] 3) = w1 at *
  go_wp2_with fail
  refine (first_any w1 _ rfl (n : Int)).mono ?_
  rintro e w2 ⟨rfl, rfl⟩
  generalize hv : Value.func (.func 33) #[] #[.pointer (some ⟨w.heap.size + 1, 0, none⟩), .pointer (some ⟨w.heap.size, 0, none⟩), .pointer (some ⟨w.heap.size + 1 + 1, 0, none⟩)] = v
  have d0 := (Blk.new w1 59 #[v]).alloc (.cells #[.int .i64 (n : Int)] 3)
  have d1 := Blk.new (w1.alloc (.cells #[v] 59)) 3 #[.int .i64 (n : Int)]
  rw [World.size_alloc] at d1
  have hbl := nextA (nextA (Mem.start w1) (.cells #[v] 59)) (.cells #[.int .i64 (n : Int)] 3)
  have hp := HF.out.lt
  have HQ := Lib.hid (collect_any ((w1.alloc (.cells #[v] 59)).alloc (.cells #[.int .i64 (n : Int)] 3)) p (w1.heap.size + 1) w1.heap.size w.heap.size (w.heap.size + 1) (w.heap.size + 1 + 1) 0 1 n 255 (by omega) (by omega) HN.out (by have := HN.out; omega)
    (H1.out.2.2.2.1.keep hbl) ⟨by omega, by omega, by omega⟩ (one d1) (by rw [hv]; exact one d0) (one (H1.out.1.keep hbl)) (one (H1.out.2.1.keep hbl)) (one (H1.out.2.2.1.keep hbl)))
  have HB2 := Lib.hid (next H1.out.2.2.2.2.1 hbl)
  clear d0 d1 hbl hp hv
  go_wp2_with fail
  refine HQ.out.mono ?_
  rintro e w3 ⟨A', c', rfl, ho, hF3, hf3⟩
  have H3 := Lib.hid (And.intro ho (And.intro hF3 hf3))
  clear ho hF3 hf3 HQ
  go_wp2_with fail
  go_ret2
  refine ⟨A', c', by rw [pts_len]; rfl, H3.out.1.down HB2.out.size, H3.out.2.1, (Fr.quiet (S := fun k => k = p) HB2.out).trans H3.out.2.2 fun k _ h => h⟩
end Go.Proofs.Ytaeoocpiggebmaa.PtW
