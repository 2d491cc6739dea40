/- The law ShareGet, walked. -/
import Derived.Test.YtlmcmcafbepjmaaShRg
import Derived.Test.YtlmcmcafbepjmaaShLo
namespace Go.Proofs.Ytlmcmcafbepjmaa.ShW
open Go.RowKit Go.Shelf Mem Fds Bv Rng
set_option linter.unusedVariables false

/-- The share that bytes are, and the code. -/
def isGot (b : List UInt8) (s : Sh) (z : Int) : Prop := (z = 0 ∧ isShare b s) ∨ (z = 160 ∧ s = ⟨[], 0, 0, []⟩ ∧ ∀ s, ¬ isShare b s)
theorem got_any (b : List UInt8) : ∃ s z, isGot b s z := by
  by_cases h : ∃ s, isShare b s
  · obtain ⟨s, hs⟩ := h; exact ⟨s, 0, .inl ⟨rfl, hs⟩⟩
  · exact ⟨_, 160, .inr ⟨rfl, rfl, fun s hs => h ⟨s, hs⟩⟩⟩
theorem getS_at {w w' : World} {b : List UInt8} {s : Sh} {z : Int} {e : Ending} (hg : isGot b s z) (h : GetS w b e w') :
    ∃ A c B d, e = .returned (.tuple #[.agg #[.slice A s.key.length c, .int .i64 s.ver, .int .i64 s.node, .slice B s.row.length d], .int .i64 z]) ∧ Mem.Own w' w.heap.size 5 A c (s.key.map u8v) ∧ Mem.Own w' w.heap.size 5 B d (s.row.map u8v) ∧ Below w.heap.size w w' := by
  obtain ⟨h, hb⟩ := h
  rcases h with ⟨t, A, c, B, d, ht, he, h1, h2⟩ | ⟨hno, he⟩
  · rcases hg with ⟨rfl, hs⟩ | ⟨_, _, hn⟩
    · obtain rfl := share_one hs ht
      exact ⟨A, c, B, d, he, h1, h2, hb⟩
    · exact (hn _ ht).elim
  · rcases hg with ⟨rfl, hs⟩ | ⟨rfl, rfl, _⟩
    · exact (hno _ hs).elim
    · exact ⟨none, 0, none, 0, he, Mem.Own.nil, Mem.Own.nil, hb⟩
theorem getR_at {w w' : World} {M : Nat} {b : List UInt8} {s : Sh} {z : Int} {e : Ending} (hg : isGot b s z) (h : GetR w M b e w') :
    ∃ A c B d, e = .returned (.tuple #[.agg #[.slice A s.key.length c, .int .i64 s.ver, .int .i64 s.node, .slice B s.row.length d], .int .i64 z]) ∧ Bytes w' M A s.key ∧ Bytes w' M B s.row ∧ Below w.heap.size w w' := by
  obtain ⟨h, hb⟩ := h
  rcases h with ⟨t, A, c, B, d, ht, he, h1, h2⟩ | ⟨hno, he⟩
  · rcases hg with ⟨rfl, hs⟩ | ⟨_, _, hn⟩
    · obtain rfl := share_one hs ht
      exact ⟨A, c, B, d, he, h1, h2, hb⟩
    · exact (hn _ ht).elim
  · rcases hg with ⟨rfl, hs⟩ | ⟨rfl, rfl, _⟩
    · exact (hno _ hs).elim
    · exact ⟨none, 0, none, 0, he, Bytes.nil, Bytes.nil, hb⟩
set_option maxRecDepth 100000 in
set_option maxHeartbeats 8000000 in
theorem getLaw_any (w : World) (A : Option Addr) (b : List UInt8) (c : Nat) (hle : b.length ≤ c) (hmx : c ≤ maxLen) (hA : Bytes w w.heap.size A b) : Calls Try.prog 5 #[.slice A b.length c] w fun e w' => e = .returned (.bool true) ∧ Below w.heap.size w w' := by
  obtain ⟨n, hn⟩ : ∃ n, b.length = n := ⟨_, rfl⟩
  rw [hn] at hle ⊢
  by_cases h6 : n ≤ 600
  · have h6i : (n : Int) ≤ 600 := by omega
    obtain ⟨s, z, hg⟩ := got_any b
    obtain ⟨bx, hbx⟩ : ∃ x, w.heap.size = x := ⟨_, rfl⟩
    have HS := Lib.hid (And.intro hn (And.intro hg (And.intro hle hbx)))
    have hk1 := convB hA n c hn.symm
    have HA := Lib.hid (show ∀ W, Below w.heap.size w W → Bytes W w.heap.size A b from fun W hW => hA.below hW)
    clear hmx hA hn hg hle
    go_enter Try.func5, Try.ntmps5
    go_wp2_with ((with_reducible show wpList _ _ _ ((⟨some 15, _, _, _, _, _⟩ : Oper) :: _) _ _); refine wpList_bytesOf _ (by rfl) 9 22 _ rfl 5 Try.underlying9 Try.underlying22 Try.underlying5 b rfl ?_; intro ck w1 hck hr1 hb1 hs1; rw [HS.out.1])
    have H1 := Lib.hid (And.intro hck (And.intro hr1 (And.intro hb1 hs1)))
    have hk := hr1.cells
    rw [HS.out.1] at hck
    have hp := get_any w1 (some ⟨w.heap.size, 0, none⟩) b n ck HS.out.1 (by omega) hck hk
    rw [HS.out.2.2.2] at hp
    refine hp.mono ?_
    clear hp hk hck hr1 hb1 hs1 hk1
    rintro e w2 hp
    obtain ⟨A1, c1, B1, d1, rfl, ho1, ho2, hb2⟩ := getS_at HS.out.2.1 hp
    clear hp
    obtain ⟨kl, hkl⟩ : ∃ x, s.key.length = x := ⟨_, rfl⟩
    obtain ⟨rl, hrl⟩ : ∃ x, s.row.length = x := ⟨_, rfl⟩
    obtain ⟨vr, hvr⟩ : ∃ x, s.ver = x := ⟨_, rfl⟩
    obtain ⟨nd, hnd⟩ : ∃ x, s.node = x := ⟨_, rfl⟩
    rw [hkl, hrl, hvr, hnd]
    have HV := Lib.hid (And.intro hkl (And.intro hrl (And.intro hvr hnd)))
    have H2 := Lib.hid (And.intro ho1 (And.intro ho2 hb2))
    clear hkl hrl hvr hnd ho1 ho2 hb2
    go_wp2_with fail
    obtain ⟨w3, hw3⟩ : ∃ x : World, w2.alloc (.cells #[.slice A1 kl c1, .int .i64 vr, .int .i64 nd, .slice B1 rl d1] 24) = x := ⟨_, rfl⟩
    have h23 : Below w2.heap.size w2 w3 := by rw [← hw3]; exact nextA (Mem.start w2) _
    have hbs : Blk w3 w2.heap.size 24 #[.slice A1 kl c1, .int .i64 vr, .int .i64 nd, .slice B1 rl d1] := by rw [← hw3]; exact Blk.new w2 _ _
    have hb3 : Below w.heap.size w w3 := next (next H1.out.2.2.1 H2.out.2.2) h23
    have H3 := Lib.hid (And.intro hb3 (And.intro hbs (And.intro (H2.out.1.keep h23) (And.intro (H2.out.2.1.keep h23) (H1.out.2.1.keep (H2.out.2.2.trans (h23.mono H2.out.2.2.size)))))))
    have HQ := Lib.hid (show bx < w1.heap.size ∧ w1.heap.size ≤ w2.heap.size from ⟨by have h1 := H1.out.2.2.2; have h2 := HS.out.2.2.2; omega, H2.out.2.2.size⟩)
    rw [hw3]
    clear h23 hbs hb3 hw3 H2 H1
    obtain ⟨gs, hgs⟩ : ∃ x, w2.heap.size = x := ⟨_, rfl⟩
    rw [hgs] at H3 HQ ⊢
    have HGS := Lib.hid hgs
    have hp := rget_any w3 A b n c w.heap.size HS.out.1 (by omega) HS.out.2.2.1 H3.out.1.size (HA.out _ H3.out.1)
    refine hp.mono ?_
    clear hp
    rintro e w4 hp
    obtain ⟨A2, c2, B2, d2, rfl, hB1, hB2, hb4⟩ := getR_at HS.out.2.1 hp
    clear hp
    rw [HV.out.1, HV.out.2.1, HV.out.2.2.1, HV.out.2.2.2]
    have H4 := Lib.hid (And.intro (next H3.out.1 hb4) (And.intro (H3.out.2.1.keep hb4) (And.intro (H3.out.2.2.1.keep hb4) (And.intro (H3.out.2.2.2.1.keep hb4) (And.intro (H3.out.2.2.2.2.keep hb4) (And.intro hB1 hB2))))))
    have HGT := Lib.hid (show gs < w4.heap.size from H4.out.2.1.lt)
    clear hB1 hB2 hb4 H3
    have hzz : (z != z) = false := by simp
    go_wp2_with fail
    obtain ⟨w5, hw5⟩ : ∃ x : World, w4.alloc (.cells #[.slice A2 kl c2, .int .i64 vr, .int .i64 nd, .slice B2 rl d2] 31) = x := ⟨_, rfl⟩
    have h45 : Below w4.heap.size w4 w5 := by rw [← hw5]; exact nextA (Mem.start w4) _
    have hbt : Blk w5 w4.heap.size 31 #[.slice A2 kl c2, .int .i64 vr, .int .i64 nd, .slice B2 rl d2] := by rw [← hw5]; exact Blk.new w4 _ _
    have hMb := Below.mono h45 (Nat.le_trans H4.out.1.size (Nat.le_refl _))
    have H5 := Lib.hid (And.intro (next H4.out.1 h45) (And.intro (H4.out.2.1.keep h45) (And.intro hbt (And.intro (H4.out.2.2.1.keep h45) (And.intro (H4.out.2.2.2.1.keep h45) (And.intro (H4.out.2.2.2.2.1.keep h45) (And.intro (H4.out.2.2.2.2.2.1.below hMb) (H4.out.2.2.2.2.2.2.below hMb))))))))
    rw [hw5]
    obtain ⟨gt, hgt⟩ : ∃ x, w4.heap.size = x := ⟨_, rfl⟩
    rw [hgt] at H5 HGT ⊢
    have HGT2 := Lib.hid hgt
    clear hgt hgs h45 hbt hMb hw5 H4 hzz
    rw [HS.out.2.2.2] at H5
    refine (sameBytes_any w5 (some ⟨bx, 0, none⟩) A b b n ck n c w5.heap.size w.heap.size HS.out.1 HS.out.1 H5.out.2.2.2.2.2.1.cells (HA.out _ (by rw [← HS.out.2.2.2] at H5; exact H5.out.1))).mono ?_
    rintro e w' ⟨rfl, rfl⟩
    rw [show decide (b = b) = true from by simp]
    go_wp2_with fail
    go_loopw [8] (fun x wr => ∃ i : Nat, x = .int .i64 (i : Int) ∧ i ≤ n ∧ (∃ l : List UInt8, l.length = n ∧ Row wr bx (some ⟨bx, 0, none⟩) (l.map u8v)) ∧ Fr (fun k => k = bx) w5 wr) (fun x _ => n - (intOf x).toNat)
    case atStart => exact ⟨0, rfl, Nat.zero_le _, ⟨b, HS.out.1, H5.out.2.2.2.2.2.1⟩, Fr.refl _ _⟩
    case round =>
      obtain ⟨i, rfl, hi, ⟨l, hl, hr⟩, hf⟩ := hrel
      obtain ⟨w6, rfl⟩ : ∃ x : World, x = wr := ⟨_, rfl⟩
      by_cases hin : i < n
      · have hii : (i : Int) < (n : Int) := by omega
        obtain ⟨g', e, _, hlt, hc', hz, hset⟩ := hr.at_ (k := i) (by rw [List.length_map]; omega)
        injection e with e; injection e with e _; subst e
        obtain ⟨x, hx⟩ : ∃ x, l[i]'(by omega) = x := ⟨_, rfl⟩
        have hc : w6.cell? ⟨bx, i, none⟩ = some (.int .u8 (x.toNat : Int)) := by rw [hc', List.getElem_map, hx]; rfl
        have hw : IntKind.u8.wrap ((x.toNat : Int) + 1) = ((x + 1).toNat : Int) := by
          have := x.toNat_lt
          rw [UInt8.toNat_add]
          show ((x.toNat : Int) + 1) % 256 = (((x.toNat + 1) % 256 : Nat) : Int)
          omega
        have HR := Lib.hid (show Row (w6.setCell ⟨bx, i, none⟩ (.int .u8 ((x + 1).toNat : Int))) bx (some ⟨bx, 0, none⟩) ((l.set i (x + 1)).map u8v) from by rw [List.map_set]; exact hset _)
        have HF := Lib.hid (Fr.setCell (p := ⟨bx, i, none⟩) hf (fun _ => rfl) (.int .u8 ((x + 1).toNat : Int)))
        have HL := Lib.hid hl
        clear hc' hr hf hset hx hl hlt
        go_wp2_with fail
        go_roundw
        case rel => exact ⟨i + 1, by simp, by omega, ⟨l.set i (x + 1), by rw [List.length_set]; exact HL.out, HR.out⟩, HF.out⟩
        case measure => simp [intOf]; omega
      · obtain rfl : i = n := by omega
        have hq1 := HQ.out
        have hs5 : bx ≤ w5.heap.size := by have h1 := H5.out.1.size; have h2 := HS.out.2.2.2; omega
        have hbl : Below bx w w6 := H5.out.1.trans (hf.below hs5 (fun q e => by omega))
        have H6 := Lib.hid (And.intro hbl (And.intro (H5.out.2.1.fr hf (fun e => by omega)) (And.intro (H5.out.2.2.1.fr hf (fun e => by have := HGT.out; omega)) (And.intro (Mem.Own.fr H5.out.2.2.2.1 hf (fun q hq e => by have := (H5.out.2.2.2.1).form; rcases this with ⟨h, _⟩ | ⟨q', h, h', _⟩ <;> rw [hq] at h; cases h; injection h with h; injection h; omega)) (And.intro (Mem.Own.fr H5.out.2.2.2.2.1 hf (fun q hq e => by have := (H5.out.2.2.2.2.1).form; rcases this with ⟨h, _⟩ | ⟨q', h, h', _⟩ <;> rw [hq] at h; cases h; injection h with h; injection h; omega)) (And.intro (Bytes.fr H5.out.2.2.2.2.2.2.1 hs5 hf (fun k hk e => by omega)) (Bytes.fr H5.out.2.2.2.2.2.2.2 hs5 hf (fun k hk e => by omega))))))))
        clear hr hf hl hq1 hbl
        have KC := Lib.hid (show ∀ W, Below w6.heap.size w6 W → (W.cell? ⟨gs, 0, none⟩ = some (.slice A1 kl c1) ∧ W.cell? ⟨gs, 1, none⟩ = some (.int .i64 vr) ∧ W.cell? ⟨gs, 2, none⟩ = some (.int .i64 nd) ∧ W.cell? ⟨gs, 3, none⟩ = some (.slice B1 rl d1)) ∧ (W.cell? ⟨gt, 0, none⟩ = some (.slice A2 kl c2) ∧ W.cell? ⟨gt, 1, none⟩ = some (.int .i64 vr) ∧ W.cell? ⟨gt, 2, none⟩ = some (.int .i64 nd) ∧ W.cell? ⟨gt, 3, none⟩ = some (.slice B2 rl d2)) from fun W hW => ⟨cells4 (H6.out.2.1.keep hW), cells4 (H6.out.2.2.1.keep hW)⟩)
        have K1 := Lib.hid (show ∀ W, Below w6.heap.size w6 W → Calls Try.prog 12 #[.agg #[.slice A1 kl c1, .int .i64 vr, .int .i64 nd, .slice B1 rl d1]] W fun e w' => e = .returned (.agg #[.slice A1 kl c1, .int .i64 vr, .int .i64 nd, .slice B1 rl d1]) ∧ Below w6.heap.size w6 w' from fun W hW => (plain_any W vr nd A1 B1 kl c1 rl d1).mono (by rintro e w' ⟨rfl, hb⟩; exact ⟨rfl, next hW hb⟩))
        have K2 := Lib.hid (show ∀ W, Below w6.heap.size w6 W → Calls Try.prog 16 #[.agg #[.slice A1 kl c1, .int .i64 vr, .int .i64 nd, .slice B1 rl d1], .agg #[.slice A2 kl c2, .int .i64 vr, .int .i64 nd, .slice B2 rl d2]] W fun e w' => e = .returned (.bool true) ∧ Below w6.heap.size w6 w' from fun W hW => by
          have h := H6.out
          have hsz := Nat.le_trans h.1.size hW.size
          have hbw : Below bx w6 W := hW.mono (by have h2 := h.1.size; have h3 := HS.out.2.2.2; omega)
          have := rsame_any W s s A1 B1 A2 B2 kl c1 rl d1 kl c2 rl d2 HV.out.1 HV.out.2.1 HV.out.1 HV.out.2.1 (Mem.Own.keep h.2.2.2.1 hW).bytes (Mem.Own.keep h.2.2.2.2.1 hW).bytes ((h.2.2.2.2.2.1.below hbw).up (by have := HS.out.2.2.2; omega)) ((h.2.2.2.2.2.2.below hbw).up (by have := HS.out.2.2.2; omega))
          rw [HV.out.2.2.1, HV.out.2.2.2, same_self] at this
          exact this.mono (by rintro e w' ⟨rfl, hb⟩; exact ⟨rfl, next hW hb⟩))
        have K3 := Lib.hid (show ∀ W, Below w6.heap.size w6 W → Calls Try.prog 9 #[] W fun e w' => e = .returned (.bool true) ∧ Below w6.heap.size w6 w' from fun W hW => (works_any W).mono (by rintro e w' ⟨rfl, hb⟩; exact ⟨rfl, next hW hb⟩))
        have h0 : Below w6.heap.size w6 w6.drew := nextN (Mem.start w6) 1
        go_wp2_with fail
        go_region_held3 (fun W => Below w6.heap.size w6 W ∧ (W.cell? ⟨gs, 0, none⟩ = some (.slice A1 kl c1) ∧ W.cell? ⟨gs, 1, none⟩ = some (.int .i64 vr) ∧ W.cell? ⟨gs, 2, none⟩ = some (.int .i64 nd) ∧ W.cell? ⟨gs, 3, none⟩ = some (.slice B1 rl d1)) ∧ (W.cell? ⟨gt, 0, none⟩ = some (.slice A2 kl c2) ∧ W.cell? ⟨gt, 1, none⟩ = some (.int .i64 vr) ∧ W.cell? ⟨gt, 2, none⟩ = some (.int .i64 nd) ∧ W.cell? ⟨gt, 3, none⟩ = some (.slice B2 rl d2)))
          (first | exact ⟨by assumption, KC.out _ (by assumption)⟩ | go_keep)
          (first
            | ((with_reducible refine (K1.out _ (by assumption)).mono ?_); rintro e w9 ⟨rfl, h⟩)
            | ((with_reducible refine (K2.out _ (by assumption)).mono ?_); rintro e w9 ⟨rfl, h⟩)
            | ((with_reducible refine (K3.out _ (by assumption)).mono ?_); rintro e w9 ⟨rfl, h⟩))
        go_wp2_with fail
        go_ret
        refine ⟨rfl, ?_⟩
        rw [HS.out.2.2.2]
        exact H6.out.1.trans (Below.mono (by assumption) (by have h2 := H6.out.1.size; have h3 := HS.out.2.2.2; omega))
  · have h6i : (600 : Int) < (n : Int) := by omega
    clear hmx hA hn hle h6
    go_enter Try.func5, Try.ntmps5
    go_wp2_with fail
    refine (works_any _).mono ?_
    rintro e w3 ⟨rfl, hb⟩
    have H3 := Lib.hid hb
    clear hb
    go_wp2_with fail
    go_ret
    exact ⟨rfl, H3.out⟩
end Go.Proofs.Ytlmcmcafbepjmaa.ShW
