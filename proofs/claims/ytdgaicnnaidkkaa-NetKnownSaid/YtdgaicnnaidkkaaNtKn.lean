/- The law NetKnown: its walk (printed by wip/gen/gennetknown.py). -/
import Derived.Test.YtdgaicnnaidkkaaNtKnM
namespace Go.Proofs.Ytdgaicnnaidkkaa.NtW
open Go.RowKit Go.Shelf Mem Rng
set_option linter.unusedVariables false

theorem u8at (z : Int) (h : -1 ≤ z ∧ z < 6) : ∃ cc : UInt8, IntKind.u8.wrap (z * 7) = (cc.toNat : Int) := by
  refine ⟨UInt8.ofNat ((z * 7) % 256).toNat, ?_⟩
  rw [UInt8.toNat_ofNat']
  show (z * 7) % 256 = _
  omega
theorem ownlong (w0 w : World) (p : Nat) (h : NS w0 p 1 [] w) : KS w0 p 1 [] 5 (some ⟨w.heap.size, 0, none⟩) 131073 ((zs 131073).map u8v) (w.alloc (.cells (Array.replicate 131073 (.int .u8 0)) 5)) := by
  refine (KS.start (T := 5) h).row ?_ ((Fr.refl _ w).alloc _) (.inr fun g hg => by injection hg with hg; injection hg with hg; omega)
  rw [zs_map]
  exact own_mk w 131073 _ _ (by unfold maxLen; decide) h.below.size
/-- The calls that the law makes at its end. -/
def lastCalls (a b c d : Nat) : List Open.OneC := [⟨0, 0, some ⟨a, 0, none⟩, [97], 1⟩, ⟨1, 0, some ⟨b, 0, none⟩, [98], 1⟩, ⟨5, 1, none, [], 0⟩, ⟨6, 0, some ⟨c, 0, none⟩, [99], 1⟩, ⟨3, -1, none, [], 0⟩, ⟨3, 3, none, [], 0⟩, ⟨4, 1, none, [], 0⟩, ⟨2, 0, none, [], 0⟩, ⟨5, 9, none, [], 0⟩, ⟨7, 3, none, [], 0⟩, ⟨3, 0, none, [], 0⟩, ⟨0, 0, some ⟨d, 0, none⟩, [100], 1⟩]
def lw1 (u : World) : World := u.alloc (.cells #[.int .u8 97] 5 (1, 2))
def lw2 (u : World) : World := (lw1 u).alloc (.cells #[.int .u8 98] 5 (1, 2))
def lw3 (u : World) : World := (lw2 u).alloc (.cells #[.int .u8 99] 5 (1, 2))
def lw4 (u : World) : World := (lw3 u).alloc (.cells #[.int .u8 100] 5 (1, 2))
def lw5 (u : World) : World := (lw4 u).alloc (.cells #[.int .u8 0, .int .i64 0, .slice (some ⟨u.heap.size, 0, none⟩) 1 1, .int .u8 1, .int .i64 0, .slice (some ⟨u.heap.size + 1, 0, none⟩) 1 1, .int .u8 5, .int .i64 1, .slice none 0 0, .int .u8 6, .int .i64 0, .slice (some ⟨u.heap.size + 1 + 1, 0, none⟩) 1 1, .int .u8 3, .int .i64 (-1), .slice none 0 0, .int .u8 3, .int .i64 3, .slice none 0 0, .int .u8 4, .int .i64 1, .slice none 0 0, .int .u8 2, .int .i64 0, .slice none 0 0, .int .u8 5, .int .i64 9, .slice none 0 0, .int .u8 7, .int .i64 3, .slice none 0 0, .int .u8 3, .int .i64 0, .slice none 0 0, .int .u8 0, .int .i64 0, .slice (some ⟨u.heap.size + 1 + 1 + 1, 0, none⟩) 1 1] 41)
def LastOk (u W : World) (l : List Open.OneC) : Prop := Cells W W.heap.size (some ⟨u.heap.size + 1 + 1 + 1 + 1, 0, none⟩) (l.flatMap Open.OneC.cells) ∧ (∀ x ∈ l, x.good W) ∧ Below u.heap.size u W ∧ l.length = 12
theorem lit_in {u W : World} {x : UInt8} {k : Nat} (hk : k = u.heap.size) (hb : Below (u.alloc (.cells #[.int .u8 (x.toNat : Int)] 5 (1, 2))).heap.size (u.alloc (.cells #[.int .u8 (x.toNat : Int)] 5 (1, 2))) W) : Bytes W W.heap.size (some ⟨k, 0, none⟩) [x] := by
  subst hk
  exact ((Bytes.new u [x] 5 (1, 2) _ rfl _ (by simp)).below hb).up hb.size
theorem good_of {W : World} {k : UInt8} {n : Int} {A : Option Addr} {b : List UInt8} {c : Nat} (hn : -9223372036854775808 ≤ n ∧ n ≤ 9223372036854775807) (hb : Bytes W W.heap.size A b) (hc : b.length ≤ c) : (⟨k, n, A, b, c⟩ : Open.OneC).good W := ⟨hn, hb, hc⟩
theorem last_ok (u : World) : LastOk u (lw5 u) (lastCalls u.heap.size (u.heap.size + 1) (u.heap.size + 1 + 1) (u.heap.size + 1 + 1 + 1)) := by
  have e1 : (lw1 u).heap.size = u.heap.size + 1 := World.size_alloc _ _
  have e2 : (lw2 u).heap.size = u.heap.size + 1 + 1 := by unfold lw2; rw [World.size_alloc, e1]
  have e3 : (lw3 u).heap.size = u.heap.size + 1 + 1 + 1 := by unfold lw3; rw [World.size_alloc, e2]
  have e4 : (lw4 u).heap.size = u.heap.size + 1 + 1 + 1 + 1 := by unfold lw4; rw [World.size_alloc, e3]
  have b4 : Below (lw4 u).heap.size (lw4 u) (lw5 u) := nextA (Mem.start _) _
  have b3 : Below (lw3 u).heap.size (lw3 u) (lw5 u) := next (nextA (Mem.start _) _) b4
  have b2 : Below (lw2 u).heap.size (lw2 u) (lw5 u) := next (nextA (Mem.start _) _) b3
  have b1 : Below (lw1 u).heap.size (lw1 u) (lw5 u) := next (nextA (Mem.start _) _) b2
  have b0 : Below u.heap.size u (lw5 u) := next (nextA (Mem.start _) _) b1
  have h1 : Bytes (lw5 u) (lw5 u).heap.size (some ⟨u.heap.size, 0, none⟩) [97] := lit_in (u := u) rfl b1
  have h2 : Bytes (lw5 u) (lw5 u).heap.size (some ⟨u.heap.size + 1, 0, none⟩) [98] := lit_in (u := lw1 u) e1.symm b2
  have h3 : Bytes (lw5 u) (lw5 u).heap.size (some ⟨u.heap.size + 1 + 1, 0, none⟩) [99] := lit_in (u := lw2 u) e2.symm b3
  have h4 : Bytes (lw5 u) (lw5 u).heap.size (some ⟨u.heap.size + 1 + 1 + 1, 0, none⟩) [100] := lit_in (u := lw3 u) e3.symm b4
  refine ⟨fun _ => ⟨_, 0, rfl, ?_, fun j v hv => ?_⟩, ?_, b0, rfl⟩
  · have : (lw5 u).heap.size = (lw4 u).heap.size + 1 := World.size_alloc _ _
    omega
  · rw [← e4]
    unfold lw5
    rw [Nat.zero_add, new_cell, ← Array.getElem?_toList]
    exact hv
  · intro x hx
    simp only [lastCalls, List.mem_cons, List.not_mem_nil, or_false] at hx
    rcases hx with rfl | rfl | rfl | rfl | rfl | rfl | rfl | rfl | rfl | rfl | rfl | rfl
    · exact good_of (by decide) h1 (by decide)
    · exact good_of (by decide) h2 (by decide)
    · exact good_of (by decide) Bytes.nil (by decide)
    · exact good_of (by decide) h3 (by decide)
    all_goals first | exact good_of (by decide) Bytes.nil (by decide) | exact good_of (by decide) h4 (by decide)
theorem takes5 (w : World) : Bytes (w.alloc (.cells #[.int .u8 3, .int .u8 0, .int .u8 9, .int .u8 2, .int .u8 1] 5)) (w.alloc (.cells #[.int .u8 3, .int .u8 0, .int .u8 9, .int .u8 2, .int .u8 1] 5)).heap.size (some ⟨w.heap.size, 0, none⟩) [3, 0, 9, 2, 1] :=
  Bytes.new w _ 5 (0, 0) _ rfl _ (by simp)
set_option maxRecDepth 100000 in
set_option maxHeartbeats 16000000 in
theorem known_any (w : World) : Calls Try.prog 5 #[] w fun e w' => e = .returned (.bool true) ∧ Below w.heap.size w w' := by
  obtain ⟨i0, hi0, hz0, hz1, hz2⟩ := info_parts PlW.u8info
  have hcv := fun (w : World) (C : Array Value) (n c : Nat) => Lib.run_convert_bytes_const (P := Try.prog) w 22 5 C n c Try.underlying22 Try.underlying5
  have HZ := Lib.hid (And.intro hi0 (And.intro hz0 (And.intro hz1 hz2)))
  clear hi0 hz0 hz1 hz2
  go_enter Try.func5, Try.ntmps5
  go_wp2_with fail
  refine (at_nil _ 0).mono ?_
  rintro e w' ⟨rfl, rfl⟩
  go_wp2_with fail
  refine (take_nil _ 0).mono ?_
  rintro e w' ⟨rfl, rfl⟩
  go_wp2_with fail
  refine (clear_nil _).mono ?_
  rintro e w' ⟨rfl, rfl⟩
  go_wp2_with fail
  refine (send_nil _ _).mono ?_
  rintro e w' ⟨rfl, rfl⟩
  go_wp2_with fail
  refine (len_nil _).mono ?_
  rintro e w' ⟨rfl, rfl⟩
  go_wp2_with fail
  refine (twice_nil _ 0).mono ?_
  rintro e w' ⟨rfl, rfl⟩
  go_wp2_with fail
  refine (set_nil _ 0 _).mono ?_
  rintro e w' ⟨rfl, rfl⟩
  go_wp2_with fail
  refine (all_nil _).mono ?_
  rintro e w' ⟨rfl, rfl⟩
  go_wp2_with fail
  refine (newS _ 1 1 rfl).mono ?_
  rintro e w1 ⟨rfl, h⟩
  have H1 := Lib.hid h
  clear h
  obtain ⟨i0, hz⟩ : ∃ i : TypeInfo, Hid (Try.prog.info? 5 = some i ∧ i.zero = some (.int .u8 0) ∧ i.size = 1 ∧ i.bytes = 1) := ⟨_, HZ⟩
  go_wp2_with ((with_reducible show wpList _ _ _ ((⟨some 63, _, _, _, _, _⟩ : Oper) :: _) _ _); refine wpList_mk rfl _ _ _ rfl 5 i0 1 (.int .u8 0) Try.underlying22 hz.out.1 hz.out.2.1 hz.out.2.2.1 hz.out.2.2.2 rfl 131073 131073 rfl rfl rfl (by decide) (by unfold maxLen; decide) 131073 rfl ?_; have H2 := Lib.hid (ownlong w w1 _ H1.out); obtain ⟨g, hg⟩ : ∃ g, w1.heap.size = g := ⟨_, rfl⟩; rw [hg] at H2 ⊢; clear hg; obtain ⟨w2, hw2⟩ : ∃ w2 : World, w1.alloc (.cells (Array.replicate 131073 (.int .u8 0)) 5) = w2 := ⟨_, rfl⟩; rw [hw2] at H2 ⊢; clear hw2)
  have HLG := Lib.hid (show Bytes w2 w2.heap.size (some ⟨g, 0, none⟩) (zs 131073) from H2.out.own.bytes)
  refine (sendK H2.out _ (zs 131073) 131073 _ (zs_len _).symm H2.out.own.bytes).mono ?_
  rintro e w3 ⟨rfl, h⟩
  have E := (show sendE 1 [] (zs 131073) = 3 ∧ sendL 1 [] (zs 131073) = [] from send_is_long (by rw [zs_len]; decide))
  rw [E.1]
  rw [E.2] at h
  have H3 := Lib.hid h
  clear h E
  go_wp2_with fail
  refine (sendK H3.out _ (zs 131072) 131072 _ (zs_len _).symm (lgk (Mem.start _) H3.out.own.bytes 1 131072 rfl)).mono ?_
  rintro e w4 ⟨rfl, h⟩
  have E := (show sendE 1 [] (zs 131072) = 0 ∧ sendL 1 [] (zs 131072) = [zs 131072] from send_is_ok (by rw [zs_len]; decide) (by decide) (by rw [zs_len]; decide))
  rw [E.1]
  rw [E.2] at h
  have H4 := Lib.hid h
  clear h E
  go_wp2_with fail
  refine (sendK H4.out none [] 0 0 rfl Bytes.nil).mono ?_
  rintro e w5 ⟨rfl, h⟩
  have E := (show sendE 1 [zs 131072] [] = 181 ∧ sendL 1 [zs 131072] [] = [zs 131072] from send_is_full (by decide) (.inl (by decide)))
  rw [E.1]
  rw [E.2] at h
  have H5 := Lib.hid h
  clear h E
  go_wp2_with fail
  refine (twiceK H5.out 0).mono ?_
  rintro e w6 ⟨rfl, h⟩
  have E := (show twiceE 1 [zs 131072] 0 = 181 ∧ twiceL 1 [zs 131072] 0 = [zs 131072] from twice_is rfl (send_is_full (by rw [zs_len]; decide) (.inl (by decide))))
  rw [E.1]
  rw [E.2] at h
  have H6 := Lib.hid h
  clear h E
  go_wp2_with fail
  refine (twiceK H6.out 1).mono ?_
  rintro e w7 ⟨rfl, h⟩
  have E := (show twiceE 1 [zs 131072] 1 = 5 ∧ twiceL 1 [zs 131072] 1 = [zs 131072] from twice_is_none rfl)
  rw [E.1]
  rw [E.2] at h
  have H7 := Lib.hid h
  clear h E
  go_wp2_with fail
  refine (setK H7.out 0 _ (zs 131073) 131073 _ (zs_len _).symm H7.out.own.bytes).mono ?_
  rintro e w8 ⟨rfl, h⟩
  have E := (show setE [zs 131072] 0 (zs 131073) = 3 ∧ setL [zs 131072] 0 (zs 131073) = [zs 131072] from set_is_long rfl (by rw [zs_len]; decide))
  rw [E.1]
  rw [E.2] at h
  have H8 := Lib.hid h
  clear h E
  go_wp2_with fail
  refine (setK H8.out 0 none [] 0 0 rfl Bytes.nil).mono ?_
  rintro e w9 ⟨rfl, h⟩
  have E := (show setE [zs 131072] 0 [] = 0 ∧ setL [zs 131072] 0 [] = [[]] from set_is_ok rfl (by decide) (by rw [show lens [zs 131072] = 131072 from by simp [lens, zs_len], zs_len]; decide))
  rw [E.1]
  rw [E.2] at h
  have H9 := Lib.hid h
  clear h E
  go_wp2_with fail
  refine (setK H9.out 1 none [] 0 0 rfl Bytes.nil).mono ?_
  rintro e w10 ⟨rfl, h⟩
  have E := (show setE [[]] 1 [] = 5 ∧ setL [[]] 1 [] = [[]] from set_is_none rfl)
  rw [E.1]
  rw [E.2] at h
  have H10 := Lib.hid h
  clear h E
  go_wp2_with fail
  refine (lenK H10.out).mono ?_
  rintro e w' ⟨rfl, rfl⟩
  go_wp2_with fail
  have HL1 := Lib.hid (show Bytes w10 w10.heap.size (some ⟨g, 0, none⟩) (zs 131073) from H10.out.own.bytes)
  have HB1 := Lib.hid H10.out.below
  refine (newS _ 100005 100000 rfl).mono ?_
  rintro e wa ⟨rfl, h⟩
  have HA := Lib.hid h
  clear h
  obtain ⟨p, hp⟩ : ∃ p, w10.heap.size = p := ⟨_, rfl⟩
  have HA : Hid (NS w10 p 100000 [] wa) := by rw [← hp]; exact HA
  rw [hp]
  clear hp
  go_wp2_with fail
  go_loopw [9, 11] (fun s i wr => ∃ j : Nat, s = .bool true ∧ i = .int .i64 (j : Int) ∧ j ≤ 100000 ∧ NS w10 p 100000 (List.replicate j []) wr) (fun _ i _ => 100000 - (intOf i).toNat)
  case atStart => exact ⟨0, rfl, rfl, Nat.zero_le _, HA.out⟩
  case round =>
    obtain ⟨j, rfl, rfl, hj, h⟩ := hrel
    have HR := Lib.hid h
    clear h HA
    obtain ⟨wb, rfl⟩ : ∃ wb : World, wb = wr := ⟨_, rfl⟩
    by_cases hjl : j < 100000
    · have h1 : (j : Int) < 100000 := by omega
      have h0 : (0 : Int) ≤ (j : Int) := by omega
      have E : sendE 100000 (List.replicate j []) [] = 0 ∧ sendL 100000 (List.replicate j []) [] = List.replicate (j + 1) [] := by
        have := send_is_ok (most := 100000) (L := List.replicate j []) (l := []) (by decide) (by rw [List.length_replicate]; exact hjl) (by rw [lens_rep]; simp)
        rw [List.replicate_succ']
        exact this
      have HE := Lib.hid E
      clear E
      go_wp2_with fail
      refine (sendS HR.out none [] 0 0 rfl Bytes.nil).mono ?_
      rintro e wc ⟨rfl, h⟩
      rw [HE.out.1]
      rw [HE.out.2] at h
      have HN := Lib.hid h
      clear h
      go_wp2_with fail
      go_roundw
      case rel => exact ⟨j + 1, rfl, rfl, hjl, HN.out⟩
      case measure => simp [intOf]; omega
    · obtain rfl : j = 100000 := by omega
      clear hj hjl
      go_wp2_with fail
      refine (sendS HR.out none [] 0 0 rfl Bytes.nil).mono ?_
      rintro e wc ⟨rfl, h⟩
      have E := (show sendE 100000 (List.replicate 100000 []) [] = 181 ∧ sendL 100000 (List.replicate 100000 []) [] = (List.replicate 100000 []) from send_is_full (by decide) (.inl (by rw [List.length_replicate]; exact Nat.le_refl _)))
      rw [E.1]
      rw [E.2] at h
      have HN := Lib.hid h
      clear h E
      go_wp2_with fail

      refine (newS _ (-3) 0 rfl).mono ?_
      rintro e wd ⟨rfl, h⟩
      have HD := Lib.hid h
      clear h
      go_wp2_with fail
      refine (sendS HD.out none [] 0 0 rfl Bytes.nil).mono ?_
      rintro e we ⟨rfl, h⟩
      have E := (show sendE 0 [] [] = 181 ∧ sendL 0 [] [] = [] from send_is_full (by decide) (.inl (by decide)))
      rw [E.1]
      rw [E.2] at h
      have HW := Lib.hid (next HN.out.below h.below)
      clear h E
      have HBe := Lib.hid (next HB1.out HW.out)
      have HLe := Lib.hid (show Bytes we we.heap.size (some ⟨g, 0, none⟩) (zs 131073) from lgk HW.out HL1.out 0 131073 rfl)
      clear HD HN HW HR
      go_wp2_with fail
      refine (newS _ 2000 2000 rfl).mono ?_
      rintro e wf ⟨rfl, h⟩
      obtain ⟨r, hr⟩ : ∃ r, we.heap.size = r := ⟨_, rfl⟩
      have HF := Lib.hid (show NS we r 2000 [] wf by rw [← hr]; exact h)
      rw [hr]
      clear h hr
      go_wp2_with fail
      refine (sendS HF.out _ (zs 131072) 131072 _ (zs_len _).symm (lgk HF.out.below HLe.out 1 131072 rfl)).mono ?_
      rintro e wg ⟨rfl, h⟩
      have E := (show sendE 2000 [] (zs 131072) = 0 ∧ sendL 2000 [] (zs 131072) = (List.replicate 1 (zs 131072)) from send_is_ok (by rw [zs_len]; decide) (by decide) (by rw [zs_len]; decide))
      rw [E.1]
      rw [E.2] at h
      have HG := Lib.hid h
      clear h E HF
      go_wp2_with fail
      go_loopw [9, 13] (fun s i wr => ∃ j : Nat, s = .bool true ∧ i = .int .i64 (j : Int) ∧ 1 ≤ j ∧ j ≤ 1024 ∧ NS we r 2000 (List.replicate j (zs 131072)) wr) (fun _ i _ => 1024 - (intOf i).toNat)
      case atStart => exact ⟨1, rfl, rfl, Nat.le_refl _, by decide, HG.out⟩
      case round =>
        obtain ⟨j, rfl, rfl, hj1, hj, h⟩ := hrel
        have HR := Lib.hid h
        clear h HG
        obtain ⟨wh, rfl⟩ : ∃ wh : World, wh = wr := ⟨_, rfl⟩
        by_cases hjl : j < 1024
        · have h1 : (j : Int) < 1024 := by omega
          have h0 : (0 : Int) ≤ (j : Int) := by omega
          have E : twiceE 2000 (List.replicate j (zs 131072)) 0 = 0 ∧ twiceL 2000 (List.replicate j (zs 131072)) 0 = List.replicate (j + 1) (zs 131072) := by
            rw [List.replicate_succ']
            exact twice_is (v := zs 131072) (by have := atV_nat (List.replicate j (zs 131072)) 0; rw [List.getElem?_replicate, if_pos (by omega)] at this; exact this) (send_is_ok (by rw [zs_len]; decide) (by rw [List.length_replicate]; omega) (by rw [lens_rep, zs_len]; omega))
          have HE := Lib.hid E
          clear E
          go_wp2_with fail
          refine (twiceS HR.out 0).mono ?_
          rintro e wi ⟨rfl, h⟩
          rw [HE.out.1]
          rw [HE.out.2] at h
          have HN := Lib.hid h
          clear h
          go_wp2_with fail
          go_roundw
          case rel => exact ⟨j + 1, rfl, rfl, by omega, hjl, HN.out⟩
          case measure => simp [intOf]; omega
        · obtain rfl : j = 1024 := by omega
          clear hj hjl hj1
          have H20 := Lib.hid (show NS we r 2000 g1 wh from HR.out)
          clear HR
          obtain ⟨w20, rfl⟩ : ∃ w20 : World, w20 = wh := ⟨_, rfl⟩
          go_wp2_with fail
          refine (twiceS H20.out 0).mono ?_
          rintro e w21 ⟨rfl, h⟩
          have E := (show twiceE 2000 g1 0 = 181 ∧ twiceL 2000 g1 0 = g1 from twice_is (v := zs 131072) (by have := atV_nat g1 0; rw [g1_at 0 (by decide)] at this; exact this) (send_is_full (by rw [zs_len]; decide) (.inr (by rw [g1_lens, zs_len]; decide))))
          rw [E.1]
          rw [E.2] at h
          have H21 := Lib.hid (h.keep (nextA (Mem.start w21) (.cells #[.int .u8 97] 5 (1, 2))))
          have HM21 := Lib.hid (lit1 w21 97)
          clear h E
          go_wp2_with fail
          refine (sendS H21.out _ [97] 1 1 rfl HM21.out).mono ?_
          rintro e w22 ⟨rfl, h⟩
          have E := (show sendE 2000 g1 [97] = 181 ∧ sendL 2000 g1 [97] = g1 from send_is_full (by decide) (.inr (by rw [g1_lens]; decide)))
          rw [E.1]
          rw [E.2] at h
          have H22 := Lib.hid h
          clear h E
          go_wp2_with fail
          refine (sendS H22.out none [] 0 0 rfl Bytes.nil).mono ?_
          rintro e w23 ⟨rfl, h⟩
          have E := (show sendE 2000 g1 [] = 0 ∧ sendL 2000 g1 [] = g2 from send_is_ok (by decide) (by rw [g1_len]; decide) (by rw [g1_lens]; decide))
          rw [E.1]
          rw [E.2] at h
          have H23 := Lib.hid (h.keep (nextA (Mem.start w23) (.cells #[.int .u8 97] 5 (1, 2))))
          have HM23 := Lib.hid (lit1 w23 97)
          clear h E
          go_wp2_with fail
          refine (setS H23.out 1024 _ [97] 1 1 rfl HM23.out).mono ?_
          rintro e w24 ⟨rfl, h⟩
          have E := (show setE g2 1024 [97] = 181 ∧ setL g2 1024 [97] = g2 from set_is_full (o := []) (by have := atV_nat g2 1024; rw [g2_end] at this; exact this) (by decide) (by rw [g2_lens]; decide))
          rw [E.1]
          rw [E.2] at h
          have H24 := Lib.hid h
          clear h E
          go_wp2_with fail
          refine (setS H24.out 3 _ (zs 131071) 131071 _ (zs_len _).symm (lgk H24.out.below HLe.out 2 131071 rfl)).mono ?_
          rintro e w25 ⟨rfl, h⟩
          have E := (show setE g2 3 (zs 131071) = 0 ∧ setL g2 3 (zs 131071) = g3 from set_is_ok (o := zs 131072) (by have := atV_nat g2 3; rw [g2_at 3 (by decide)] at this; exact this) (by rw [zs_len]; decide) (by rw [g2_lens, zs_len, zs_len]; decide))
          rw [E.1]
          rw [E.2] at h
          have H25 := Lib.hid (h.keep (nextA (Mem.start w25) (.cells #[.int .u8 97] 5 (1, 2))))
          have HM25 := Lib.hid (lit1 w25 97)
          clear h E
          go_wp2_with fail
          refine (setS H25.out 1024 _ [97] 1 1 rfl HM25.out).mono ?_
          rintro e w26 ⟨rfl, h⟩
          have E := (show setE g3 1024 [97] = 0 ∧ setL g3 1024 [97] = g4 from set_is_ok (o := []) (by have := atV_nat g3 1024; rw [g3_end] at this; exact this) (by decide) (by rw [g3_lens]; decide))
          rw [E.1]
          rw [E.2] at h
          have H26 := Lib.hid (h.keep (nextA (Mem.start w26) (.cells #[.int .u8 98] 5 (1, 2))))
          have HM26 := Lib.hid (lit1 w26 98)
          clear h E
          go_wp2_with fail
          refine (sendS H26.out _ [98] 1 1 rfl HM26.out).mono ?_
          rintro e w27 ⟨rfl, h⟩
          have E := (show sendE 2000 g4 [98] = 181 ∧ sendL 2000 g4 [98] = g4 from send_is_full (by decide) (.inr (by rw [g4_lens]; decide)))
          rw [E.1]
          rw [E.2] at h
          have H27 := Lib.hid h
          clear h E
          go_wp2_with fail
          have E : atV g4 0 = some (zs 131072) := by have := atV_nat g4 0; rw [g4_first] at this; exact this
          have HT := Lib.hid (show Calls Try.prog 8 #[.pointer (some ⟨r, 0, none⟩), .int .i64 0] w27 (GotS we r 2000 w27 g5 (some (zs 131072))) from by have := takeS H27.out 0; rw [E] at this; exact this)
          clear E
          refine HT.out.mono ?_
          rintro e w28 ⟨B0, c0, rfl, ho, h⟩
          rw [show ((some (zs 131072)).getD []).length = 131072 from zs_len _, show (some (zs 131072)).isSome = true from rfl]
          have H28 := Lib.hid h
          clear h ho HT
          go_wp2_with fail
          refine (sendS H28.out _ (zs 131072) 131072 _ (zs_len _).symm (lgk H28.out.below HLe.out 1 131072 rfl)).mono ?_
          rintro e w29 ⟨rfl, h⟩
          have E := (show sendE 2000 g5 (zs 131072) = 0 ∧ sendL 2000 g5 (zs 131072) = g6 from send_is_ok (by rw [zs_len]; decide) (by rw [g5_len]; decide) (by rw [g5_lens, zs_len]; decide))
          rw [E.1]
          rw [E.2] at h
          have H29 := Lib.hid h
          clear h E
          go_wp2_with fail
          have HL9 := Lib.hid (show Calls Try.prog 10 #[.pointer (some ⟨r, 0, none⟩)] w29 (fun e w' => e = .returned (.int .i64 1025) ∧ w29 = w') from by have := lenS H29.out; rw [g6_len] at this; exact this)
          refine HL9.out.mono ?_
          rintro e w' ⟨rfl, rfl⟩
          go_wp2_with fail
          refine (clearS H29.out).mono ?_
          rintro e w30 ⟨rfl, h⟩
          have H30 := Lib.hid h
          clear h HL9
          go_wp2_with fail
          refine (sendS H30.out _ (zs 131072) 131072 _ (zs_len _).symm (lgk H30.out.below HLe.out 1 131072 rfl)).mono ?_
          rintro e w31 ⟨rfl, h⟩
          have E := (show sendE 2000 [] (zs 131072) = 0 ∧ sendL 2000 [] (zs 131072) = [zs 131072] from send_is_ok (by rw [zs_len]; decide) (by decide) (by rw [zs_len]; decide))
          rw [E.1]
          rw [E.2] at h
          have hcv2 : ∀ (w : World) (C : Array Value) (n c g : Nat), w.heap.size = g → (convert 22 22 (.slice (some ⟨g, 0, none⟩) n c)).run Try.prog (w.alloc (.cells C 5)) = .ok (.slice (some ⟨g, 0, none⟩) n c) (w.alloc (.cells C 5 (C.size, C.size + 1))) := fun w C n c g hg => by subst hg; exact hcv w C n c
          have H31 := Lib.hid h
          clear h E
          go_wp2_with fail
          have HK := Lib.hid (last_ok w31)
          obtain ⟨w40, hw40⟩ : ∃ w40 : World, lw5 w31 = w40 := ⟨_, rfl⟩
          rw [hw40] at HK
          unfold lw5 lw4 lw3 lw2 lw1 at hw40
          rw [hw40]
          clear hw40
          have HP := Lib.hid (show ∀ W, Below w40.heap.size w40 W → ∀ z : Int, Calls Try.prog 4 #[.int .i64 z, .slice (some ⟨w31.heap.size + 1 + 1 + 1 + 1, 0, none⟩) 12 12] W (fun e w' => e = .returned (.bool true) ∧ Below W.heap.size W w') from fun W hW z => plays_any W z _ (lastCalls w31.heap.size (w31.heap.size + 1) (w31.heap.size + 1 + 1) (w31.heap.size + 1 + 1 + 1)) 12 (Nat.le_refl _) (by unfold maxLen; decide) ((HK.out.1.below hW).up hW.size) (fun x hx => ⟨(HK.out.2.1 x hx).1, ((HK.out.2.1 x hx).2.1.below hW).up hW.size, (HK.out.2.1 x hx).2.2⟩))
          have HB40 := Lib.hid (next (next HBe.out H31.out.below) HK.out.2.2.1)
          clear hcv2 hcv
          go_loopw [17] (fun i wr => ∃ z : Int, i = .int .i64 z ∧ -1 ≤ z ∧ z ≤ 6 ∧ Below w40.heap.size w40 wr) (fun i _ => (6 - intOf i).toNat)
          case atStart => exact ⟨-1, rfl, by omega, by omega, Mem.start _⟩
          case round =>
            obtain ⟨z, rfl, hz0, hz1, hb⟩ := hrel
            have HR := Lib.hid hb
            clear hb
            obtain ⟨w41, rfl⟩ : ∃ w41 : World, w41 = wr := ⟨_, rfl⟩
            by_cases hz6 : z < 6
            · obtain ⟨cc, hcc⟩ := u8at z ⟨hz0, hz6⟩
              have hw7 : IntKind.i64.wrap (z * 7) = z * 7 := IntWalk.i64_in _ (by omega)
              go_wp2_with fail
              refine (HP.out w41 HR.out z).mono ?_
              rintro e w42 ⟨rfl, hb⟩
              have HR2 := Lib.hid (next HR.out hb)
              clear hb
              go_wp2_with fail
              refine (keeps_any _ cc (some ⟨w42.heap.size, 0, none⟩) [3, 0, 9, 2, 1] 5 (Nat.le_refl _) (by unfold maxLen; decide) (takes5 w42)).mono ?_
              rintro e w43 ⟨rfl, hb⟩
              have HR3 := Lib.hid (next (nextA HR2.out _) hb)
              clear hb hcc hw7
              go_wp2_with fail
              go_roundw
              case rel => exact ⟨z + 1, by simp, by omega, by omega, HR3.out⟩
              case measure => simp [intOf]; omega
            · have hz7 : (6 : Int) ≤ z := by omega
              go_wp2_with fail
              refine (works_any w41).mono ?_
              rintro e w42 ⟨rfl, hb⟩
              have HE := Lib.hid (next (next HB40.out HR.out) hb)
              clear hb
              go_wp2_with fail
              go_ret
              exact ⟨rfl, HE.out⟩
end Go.Proofs.Ytdgaicnnaidkkaa.NtW
