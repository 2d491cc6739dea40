/- The law's two messages (works). -/
import Derived.Test.YtebdmfmadbikaaaDoorWrGet
namespace Go.Proofs.YtebdmfmadbikaaaDoor.WiW
open Go.RowKit Go.Shelf Mem Fds FdW Wi Rng
set_option linter.unusedVariables false
set_option linter.unusedSimpArgs false

def mA : Msg := { kind := 11, frm := 3, to_ := 0, req := 0, key := [], ver := 0, inc := 0, size := 0, code := 0, node := 0, back := false, ids := [], nodes := [], data := [] }
def mB : Msg := { kind := 2, frm := 9, to_ := 0, req := 2, key := [97, 98], ver := 0, inc := 0, size := 0, code := 0, node := 0, back := false, ids := [], nodes := [], data := [] }
theorem mA_may : may mA = true := by decide +kernel
theorem mB_may : may mB = true := by decide +kernel
theorem mA_bytes : Wi.bytes mA = [11, 0, 3, 0, 0] := by decide +kernel
def bB : List UInt8 := [2, 0, 9, 0, 0, 0, 0, 0, 0, 0, 0, 0, 2, 2, 97, 98]
theorem mB_bytes : Wi.bytes mB = bB := by decide +kernel
theorem small_in (m : Msg) (w : World) (B : Nat) (h1 : m.kind < 256) (h2 : m.key.length ≤ 64) (h3 : m.ids = []) (h4 : m.nodes = []) (h5 : m.data = []) : MIn w B m s0 := by
  refine ⟨?_, ?_, ?_, h1, by omega, by rw [h3]; simp, by rw [h4]; simp, by rw [h5]; simp, by rw [h3]; simp⟩
  · rw [h3]; exact Cells.nil
  · rw [h4]; exact Cells.nil
  · rw [h5]; exact Bytes.nil
theorem r1B : rnum 1 bB = some (2, [0, 9, 0, 0, 0, 0, 0, 0, 0, 0, 0, 2, 2, 97, 98]) := by decide +kernel
theorem r2B : rnum 2 [0, 9, 0, 0, 0, 0, 0, 0, 0, 0, 0, 2, 2, 97, 98] = some (9, [0, 0, 0, 0, 0, 0, 0, 0, 0, 2, 2, 97, 98]) := by decide +kernel
theorem r3B : rnum 2 [0, 0, 0, 0, 0, 0, 0, 0, 0, 2, 2, 97, 98] = some (0, [0, 0, 0, 0, 0, 0, 0, 2, 2, 97, 98]) := by decide +kernel
theorem rfB : rfs (flds 2) (msg0 2 ((9 : Nat) : Int) ((0 : Nat) : Int)) [0, 0, 0, 0, 0, 0, 0, 2, 2, 97, 98] = some (mB, []) := by
  have e1 : rnum 8 [0, 0, 0, 0, 0, 0, 0, 2, 2, 97, 98] = some (2, [2, 97, 98]) := by decide +kernel
  have e2 : rtxt [2, 97, 98] = some ([97, 98], []) := by decide +kernel
  show (rf _ _ 0).bind (fun p => rfs [1] p.1 p.2) = _
  simp only [rf, e1, Option.map_some, Option.bind_some]
  show (rf _ _ 1).bind (fun p => rfs [] p.1 p.2) = _
  simp only [rf, e2, Option.map_some, Option.bind_some]
  rfl
/-- A row of bytes that is there. -/
theorem own_at {w : World} {base : Nat} {A : Option Addr} {c : Nat} {l : List UInt8} (h : Mem.Own w base 5 A c (l.map u8v)) (hl : 0 < l.length) : ∃ g, A = some ⟨g, 0, none⟩ ∧ l.length ≤ c ∧ c ≤ maxLen ∧ g < w.heap.size ∧ ∀ (k : Nat) (x : UInt8), l[k]? = some x → w.cell? ⟨g, k, none⟩ = some (.int .u8 (x.toNat : Int)) := by
  have hb : Bytes w w.heap.size A l := h.bytes
  rcases h.form with ⟨_, _, e⟩ | ⟨g, e, _, h1, h2, h3⟩
  · simp at e; rw [e] at hl; simp at hl
  · refine ⟨g, e, by simpa using h2, h3, h1, fun k x hk => ?_⟩
    obtain ⟨b, off, e2, _, hc⟩ := hb (by simpa using hl)
    rw [e] at e2
    injection e2 with e2
    injection e2 with e3 e4
    subst e3
    subst e4
    have := hc k (u8v x) (by rw [List.getElem?_map, hk]; rfl)
    rwa [Nat.zero_add] at this
set_option maxRecDepth 100000 in
set_option maxHeartbeats 8000000 in
theorem works_any (w : World) (hT : HasT w) : Calls Tryd.prog 10 #[] w fun e w' => e = .returned (.bool true) ∧ Below w.heap.size w w' := by
  have hbA : ∀ W : World, (Instr.build 27 #[(0, .int .u8 11), (1, .int .i64 3)]).run Tryd.prog W = .ok (.agg (mv mA s0)) W := fun W => by kernel_rfl
  have hbB : ∀ W : World, (Instr.build 27 #[(0, .int .u8 2), (1, .int .i64 9), (3, .int .i64 2), (4, .string { data := #[97, 98] })]).run Tryd.prog W = .ok (.agg (mv mB s0)) W := fun W => by kernel_rfl
  have HT := Lib.hid hT
  clear hT
  go_enter Tryd.func10, Tryd.ntmps10
  go_wp2_with fail
  refine (Put_any w mA s0 HT.out (small_in mA w _ (by decide) (by decide) rfl rfl rfl)).mono ?_
  rintro e w1 he
  unfold PutR at he
  rw [if_pos mA_may] at he
  obtain ⟨A, c, rfl, ho, hb⟩ := he
  obtain ⟨ga, rfl, h1, h2, h3, h4⟩ := own_at ho (by rw [mA_bytes]; decide)
  rw [mA_bytes] at h1 h4 ho ⊢
  have HA := Lib.hid (And.intro h3 h4)
  have HB := Lib.hid hb
  clear hbA ho hb h1 h2 h3 h4
  go_wp2_with fail
  refine (Put_any w1 mB s0 (HT.out.keep HB.out) (small_in mB w1 _ (by decide) (by decide) rfl rfl rfl)).mono ?_
  rintro e w2 he
  unfold PutR at he
  rw [if_pos mB_may] at he
  obtain ⟨A, c', rfl, ho, hb⟩ := he
  obtain ⟨gb, rfl, h1, h2, h3, h4⟩ := own_at ho (by rw [mB_bytes]; decide)
  have hby := ho.bytes
  rw [mB_bytes] at h1 h4 hby ⊢
  have HA2 := Lib.hid (And.intro h3 (And.intro h4 (And.intro hby (And.intro h1 h2))))
  have HB2 := Lib.hid (And.intro (next HB.out hb) hb)
  clear hbB ho hb h1 h2 h3 h4 hby
  go_wp2_with fail
  refine (get_ok w2 (some ⟨gb, 0, none⟩) bB 16 c' rfl HA2.out.2.2.2.1 HA2.out.2.2.2.2 HA2.out.2.2.1 (HT.out.keep HB2.out.1) 2 9 0 _ _ _ mB r1B r2B r3B (by decide) rfB mB_may).mono ?_
  rintro e w3 ⟨rfl, hb3⟩
  have HB3 := Lib.hid (And.intro (next HB2.out.1 hb3) hb3)
  rw [show mv mB s0 = #[.int .u8 2, .int .i64 9, .int .i64 0, .int .i64 2, .string { data := #[97, 98] }, .int .i64 0, .int .i64 0, .int .i64 0, .int .i64 0, .int .i64 0, .bool false, .slice none 0 0, .slice none 0 0, .slice none 0 0] from rfl]
  have k1 : w3.cell? ⟨ga, 0, none⟩ = some (.int .u8 11) := (hb3.cell (Nat.lt_of_lt_of_le HA.out.1 HB2.out.2.size)).trans ((HB2.out.2.cell HA.out.1).trans (HA.out.2 0 11 rfl))
  have k2 : w3.cell? ⟨ga, 2, none⟩ = some (.int .u8 3) := (hb3.cell (Nat.lt_of_lt_of_le HA.out.1 HB2.out.2.size)).trans ((HB2.out.2.cell HA.out.1).trans (HA.out.2 2 3 rfl))
  have k3 : w3.cell? ⟨gb, 0, none⟩ = some (.int .u8 2) := (hb3.cell HA2.out.1).trans (HA2.out.2.1 0 2 rfl)
  have k4 : w3.cell? ⟨gb, 12, none⟩ = some (.int .u8 2) := (hb3.cell HA2.out.1).trans (HA2.out.2.1 12 2 rfl)
  have k5 : w3.cell? ⟨gb, 13, none⟩ = some (.int .u8 2) := (hb3.cell HA2.out.1).trans (HA2.out.2.1 13 2 rfl)
  have k6 : w3.cell? ⟨gb, 14, none⟩ = some (.int .u8 97) := (hb3.cell HA2.out.1).trans (HA2.out.2.1 14 97 rfl)
  have l1 : ga < w3.heap.size := Nat.lt_of_lt_of_le HA.out.1 (Nat.le_trans HB2.out.2.size hb3.size)
  have l2 : gb < w3.heap.size := Nat.lt_of_lt_of_le HA2.out.1 hb3.size
  clear hb3
  go_wp2_with fail
  go_ret
  exact ⟨rfl, HB3.out.1.trans (nextA (Mem.start w3) _ |>.mono (Nat.le_trans HB2.out.1.size HB3.out.2.size))⟩
end Go.Proofs.YtebdmfmadbikaaaDoor.WiW
