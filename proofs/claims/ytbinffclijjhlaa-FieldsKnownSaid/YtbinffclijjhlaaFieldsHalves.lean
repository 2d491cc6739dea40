/- The law of halves: a number is as its halves, put and read. -/
import Derived.Test.YtbinffclijjhlaaFieldsWorks
namespace Go.Proofs.Ytbinffclijjhlaa.FdW
open Go.RowKit Mem Fds
set_option linter.unusedVariables false

theorem be_cat (a b n : Nat) : be a (n / 256 ^ b) ++ be b n = be (a + b) n := by
  induction b generalizing n with
  | zero => simp [be]
  | succ b ih =>
    rw [be_snoc, ← List.append_assoc, show a + (b + 1) = (a + b) + 1 from rfl, be_snoc, ← ih]
    congr 3
    rw [Nat.div_div_eq_div_mul, ← Nat.pow_succ']
theorem be_step (a k b n : Nat) : be a (n / 256 ^ (b + k)) ++ be k (n / 256 ^ b % 256 ^ k) = be (a + k) (n / 256 ^ b) := by
  rw [be_mod, Nat.pow_add, ← Nat.div_div_eq_div_mul]
  exact be_cat a k (n / 256 ^ b)
theorem be_take (a b n : Nat) : (be (a + b) n).take a = be a (n / 256 ^ b) := by rw [← be_cat]; exact List.take_left' (be_len _ _)
theorem be_drop (a b n : Nat) : (be (a + b) n).drop a = be b n := by rw [← be_cat]; exact List.drop_left' (be_len _ _)
theorem bad_in {l : List UInt8} {k m : Nat} (h : k + m ≤ l.length) : bad l k false (m : Int) = false := by
  simp [bad, left]; omega
theorem goes_in {l : List UInt8} {k m : Nat} (h : k + m ≤ l.length) : goes l k false (m : Int) = k + m := by
  rw [goes, bad_in h]; simp
theorem got_in {l : List UInt8} {k m : Nat} (h : k + m ≤ l.length) : got l k false (m : Int) = (l.drop k).take m := by
  rw [got, bad_in h]; simp
theorem num_in (k m r n : Nat) : num (got (be (k + (m + r)) n) k false (m : Int)) = n / 256 ^ r % 256 ^ m := by
  rw [got_in (by rw [be_len]; omega), be_drop, be_take, num_be]
/-- The stage of a next writer begins. -/
theorem next_stage {B p q : Nat} {w w0 w1 : World} {l : List UInt8} (h : Stg B w0 p l w1) (hw : Below B w w0) (hBw : B ≤ w.heap.size) (hp : B ≤ p) (hq : Blk w0 q 27 #[.slice none 0 0]) (hne : q ≠ p) (hqB : B ≤ q) :
    Stg B w1 q [] w1 ∧ Has B p l w1 ∧ Below B w w1 :=
  ⟨Stg.start (hq.fr h.fr hne) hqB, h.has, hw.trans (h.fr.below (Nat.le_trans hBw hw.size) fun k hk => by subst hk; exact hp)⟩
theorem wrap16 (x : Int) : IntKind.u16.wrap x = x % 65536 := rfl
theorem wrap8 (x : Int) : IntKind.u8.wrap x = x % 256 := rfl
theorem wrap64 (x : Int) : IntKind.u64.wrap x = x % 18446744073709551616 := rfl
theorem sum_x (n x1 x2 : Nat) (hn : n < 256 ^ 8) (h1 : n / 256 ^ (8 - 0 - 4) % 256 ^ 4 = x1) (h2 : n / 256 ^ (8 - (0 + 4) - 4) % 256 ^ 4 = x2) :
    IntKind.u64.wrap (IntKind.u64.wrap (IntKind.u64.wrap (x1 : Int) * 4294967296) + IntKind.u64.wrap (x2 : Int)) = (n : Int) := by
  simp only [wrap64]
  omega
theorem sum_y (n y1 y2 y3 y4 : Nat) (hn : n < 256 ^ 8) (h1 : n / 256 ^ (8 - 0 - 2) % 256 ^ 2 = y1) (h2 : n / 256 ^ (8 - (0 + 2) - 1) % 256 ^ 1 = y2) (h3 : n / 256 ^ (8 - (0 + 2 + 1) - 1) % 256 ^ 1 = y3) (h4 : n / 256 ^ (8 - (0 + 2 + 1 + 1) - 4) % 256 ^ 4 = y4) :
    IntKind.u64.wrap (IntKind.u64.wrap (IntKind.u64.wrap (IntKind.u64.wrap (IntKind.u64.wrap (y1 : Int) * 281474976710656) + IntKind.u64.wrap (IntKind.u64.wrap (y2 : Int) * 1099511627776)) + IntKind.u64.wrap (IntKind.u64.wrap (y3 : Int) * 4294967296)) + IntKind.u64.wrap (y4 : Int)) = (n : Int) := by
  simp only [wrap64]
  omega
/-- Four writers, and nothing older than B turned. -/
def Four (w : World) (p1 p2 p3 p4 : Nat) (l : List UInt8) (w1 : World) : Prop :=
  Has w.heap.size p1 l w1 ∧ Has w.heap.size p2 l w1 ∧ Has w.heap.size p3 l w1 ∧ Has w.heap.size p4 l w1 ∧ Below w.heap.size w w1
theorem Four.keep {w w1 w2 : World} {p1 p2 p3 p4 : Nat} {l : List UInt8} (h : Four w p1 p2 p3 p4 l w1) (hb : Below w1.heap.size w1 w2) : Four w p1 p2 p3 p4 l w2 :=
  ⟨h.1.keep hb, h.2.1.keep hb, h.2.2.1.keep hb, h.2.2.2.1.keep hb, next h.2.2.2.2 hb⟩
theorem out_str {base p : Nat} {w : World} {l : List UInt8} {n : Nat} (h : Has base p l w) (hn : l.length = n) (hlen : n ≤ 100000000) :
    Calls Try.prog 13 #[.pointer (some ⟨p, 0, none⟩)] w fun e w' => ∃ A c, e = .returned (.slice A n c) ∧ Hid (Own w' w.heap.size 5 A c (l.map u8v) ∧ Below w.heap.size w w') ∧ (convert 25 9 (.slice A n c)).run Try.prog w' = .ok (.string (str l)) w' := by
  subst hn
  refine (out_has h hlen).mono ?_
  rintro e w' ⟨A, c, rfl, ho, hb⟩
  exact ⟨A, c, rfl, Lib.hid ⟨ho, hb⟩, run_str (P := Try.prog) w' 25 5 Try.underlying25 Try.underlying5 ho.bytes c 9 Try.underlying9⟩
/-- A number's reader read: so many bytes of it. -/
def In (kd : IntKind) (w : World) (B p n k m : Nat) (e : Ending) (w' : World) : Prop :=
  e = .returned (.int kd ((n / 256 ^ (8 - k - m) % 256 ^ m : Nat) : Int)) ∧ HasR B p (be 8 n) (k + m) false w' ∧ Fr (fun i => i = p) w w'
theorem ReadOk.in_ {kd : IntKind} {w w' : World} {B p n k m : Nat} {e : Ending} (hk : k + m ≤ 8) (h : ReadOk kd w B p (be 8 n) k false (m : Int) e w') : In kd w B p n k m e w' := by
  obtain ⟨rfl, hr, hf⟩ := h
  have hl : k + m ≤ (be 8 n).length := by rw [be_len]; exact hk
  rw [goes_in hl, bad_in hl] at hr
  obtain ⟨r, hr8⟩ : ∃ r, 8 = k + (m + r) := ⟨8 - k - m, by omega⟩
  refine ⟨?_, hr, hf⟩
  have e1 : num (got (be 8 n) k false (m : Int)) = n / 256 ^ (8 - k - m) % 256 ^ m := by
    rw [show 8 - k - m = r by omega, hr8]; exact num_in k m r n
  rw [e1]
theorem rbyte_in {B p n k : Nat} {w : World} (h : HasR B p (be 8 n) k false w) (hk : k + 1 ≤ 8) :
    Calls Try.prog 28 #[.pointer (some ⟨p, 0, none⟩)] w (In .u8 w B p n k 1) := (rbyte_has h).mono fun _ _ => ReadOk.in_ hk
theorem rshort_in {B p n k : Nat} {w : World} (h : HasR B p (be 8 n) k false w) (hk : k + 2 ≤ 8) :
    Calls Try.prog 27 #[.pointer (some ⟨p, 0, none⟩)] w (In .u16 w B p n k 2) := (rshort_has h).mono fun _ _ => ReadOk.in_ hk
theorem rword_in {B p n k : Nat} {w : World} (h : HasR B p (be 8 n) k false w) (hk : k + 4 ≤ 8) :
    Calls Try.prog 26 #[.pointer (some ⟨p, 0, none⟩)] w (In .u32 w B p n k 4) := (rword_has h).mono fun _ _ => ReadOk.in_ hk
theorem rlong_in {B p n k : Nat} {w : World} (h : HasR B p (be 8 n) k false w) (hk : k + 8 ≤ 8) :
    Calls Try.prog 29 #[.pointer (some ⟨p, 0, none⟩)] w (In .u64 w B p n k 8) := (rlong_has h).mono fun _ _ => ReadOk.in_ hk
/-- Another reader, and what is old, behind a reading. -/
theorem HasR.next {B p q n k j : Nat} {w w' : World} (h : HasR B q (be 8 n) j false w) (hr : HasR B p (be 8 n) k false w) (hf : Fr (fun i => i = p) w w') (hne : q ≠ p) : HasR B q (be 8 n) j false w' := by
  obtain ⟨cs, hb⟩ := hr.blk
  exact h.other hf hb (by decide) hne
theorem below_next {w0 w w' : World} {B p n k : Nat} (h : Below B w0 w) (hr : HasR B p (be 8 n) k false w) (hf : Fr (fun i => i = p) w w') : Below B w0 w' :=
  h.trans (hf.below (Nat.le_trans hr.at_ (Nat.le_of_lt hr.lt)) fun k hk => by subst hk; exact hr.at_)
set_option maxHeartbeats 1000000 in
theorem halves_nat (w : World) (n : Nat) (hn : n < 256 ^ 8) :
    Calls Try.prog 5 #[.int .u64 (n : Int)] w fun e w' => e = .returned (.bool true) ∧ Below w.heap.size w w' := by
  have q1 : ([] : List UInt8) ++ be 8 n = be 8 n := List.nil_append _
  have Q1 := Lib.hid q1
  have HN := Lib.hid hn
  clear q1 hn
  go_enter Try.func5, Try.ntmps5
  go_wp2_with fail
  have hn1 : ∀ (w : World) (o : Obj), (w.alloc o).heap.size = w.heap.size + 1 := fun w o => by simp
  have b1 := (((Blk.new w 27 #[.slice none 0 0]).alloc (.cells #[.slice none 0 0] 27)).alloc (.cells #[.slice none 0 0] 27)).alloc (.cells #[.slice none 0 0] 27)
  have b2 := ((Blk.new (w.alloc (.cells #[.slice none 0 0] 27)) 27 #[.slice none 0 0]).alloc (.cells #[.slice none 0 0] 27)).alloc (.cells #[.slice none 0 0] 27)
  have b3 := (Blk.new ((w.alloc (.cells #[.slice none 0 0] 27)).alloc (.cells #[.slice none 0 0] 27)) 27 #[.slice none 0 0]).alloc (.cells #[.slice none 0 0] 27)
  have b4 := Blk.new (((w.alloc (.cells #[.slice none 0 0] 27)).alloc (.cells #[.slice none 0 0] 27)).alloc (.cells #[.slice none 0 0] 27)) 27 #[.slice none 0 0]
  have bb := nextA (nextA (nextA (nextA (Mem.start w) (.cells #[.slice none 0 0] 27)) (.cells #[.slice none 0 0] 27)) (.cells #[.slice none 0 0] 27)) (.cells #[.slice none 0 0] 27)
  simp only [hn1] at b2 b3 b4
  clear hn1
  generalize (((w.alloc _).alloc _).alloc _).alloc _ = w4 at *
  have d1 : w.heap.size ≤ w.heap.size + 1 := by omega
  have d2 : w.heap.size ≤ w.heap.size + 1 + 1 := by omega
  have d3 : w.heap.size ≤ w.heap.size + 1 + 1 + 1 := by omega
  have e1 : w.heap.size + 1 ≠ w.heap.size := by omega
  have e2 : w.heap.size + 1 + 1 ≠ w.heap.size := by omega
  have e3 : w.heap.size + 1 + 1 + 1 ≠ w.heap.size := by omega
  have e4 : w.heap.size + 1 + 1 ≠ w.heap.size + 1 := by omega
  have e5 : w.heap.size + 1 + 1 + 1 ≠ w.heap.size + 1 := by omega
  have e6 : w.heap.size + 1 + 1 + 1 ≠ w.heap.size + 1 + 1 := by omega
  have hB : w.heap.size ≤ w.heap.size := Nat.le_refl _
  generalize w.heap.size + 1 + 1 + 1 = pd at *
  generalize w.heap.size + 1 + 1 = pc at *
  generalize w.heap.size + 1 = pb at *
  have D := Lib.hid (And.intro d1 (And.intro d2 d3))
  have E := Lib.hid (And.intro e1 (And.intro e2 (And.intro e3 (And.intro e4 (And.intro e5 e6)))))
  have BB := Lib.hid bb
  have S0 := Lib.hid (Stg.start (base := w.heap.size) b1 hB)
  have CB := Lib.hid (And.intro b2 (And.intro b3 b4))
  clear d1 d2 d3 e1 e2 e3 e4 e5 e6 bb b1 b2 b3 b4
  refine (long_stg S0.out (Nat.zero_le _) _ n rfl HN.out).mono ?_
  rintro e w1 ⟨rfl, hs1⟩
  rw [Q1.out] at hs1
  have N1 := Lib.hid (next_stage hs1 BB.out hB hB CB.out.1 E.out.1 D.out.1)
  have F1 := Lib.hid hs1.fr
  have CB1 := Lib.hid (And.intro (CB.out.2.1.fr F1.out E.out.2.1) (CB.out.2.2.fr F1.out E.out.2.2.1))
  clear hs1 S0 BB CB F1
  go_wp2_with fail
  refine (word_stg N1.out.1 (Nat.zero_le _) _ (n / 256 ^ 4 % 256 ^ 4) (by omega) (Nat.mod_lt _ (by decide))).mono ?_
  rintro e w2 ⟨rfl, hs2⟩
  have S2 := Lib.hid hs2
  clear hs2
  go_wp2_with fail
  refine (word_stg S2.out (by rw [List.nil_append, be_len]; decide) _ (n % 256 ^ 4) (by omega) (Nat.mod_lt _ (by decide))).mono ?_
  rintro e w3 ⟨rfl, hs3⟩
  rw [List.nil_append, be_mod, be_mod, be_cat 4 4 n] at hs3
  obtain ⟨cs3, hk3⟩ := N1.out.1.blk
  have N3 := Lib.hid (next_stage hs3 N1.out.2.2 hB D.out.1 CB1.out.1 E.out.2.2.2.1 D.out.2.1)
  have H3 := Lib.hid (And.intro (N1.out.2.1.other hs3.fr hk3 (by decide) E.out.1.symm) (CB1.out.2.fr hs3.fr E.out.2.2.2.2.1))
  clear hs3 hk3 N1 CB1 S2
  go_wp2_with fail
  go_loopw [7] (fun i wr => ∃ j : Nat, (j = 0 ∧ i = .int .i64 3 ∨ j = 1 ∧ i = .int .i64 2 ∨ j = 2 ∧ i = .int .i64 1 ∨ j = 3 ∧ i = .int .i64 0 ∨ j = 4 ∧ i = .int .i64 (-1)) ∧ Stg w.heap.size w3 pc (be (2 * j) (n / 256 ^ (8 - 2 * j))) wr) (fun i _ => (intOf i + 1).toNat)
  case atStart => exact ⟨0, .inl ⟨rfl, rfl⟩, N3.out.1⟩
  case round =>
    obtain ⟨j, hrel, hs⟩ := hrel
    have HS := Lib.hid hs
    clear hs
    rcases hrel with ⟨rfl, rfl⟩ | ⟨rfl, rfl⟩ | ⟨rfl, rfl⟩ | ⟨rfl, rfl⟩ | ⟨rfl, rfl⟩
    · go_wp2_with fail
      refine (short_stg HS.out (by rw [be_len]; decide) _ (n / 256 ^ 6 % 256 ^ 2) (by first | (rw [wrap16]; omega) | omega) (Nat.mod_lt _ (by decide))).mono ?_
      rintro e w5 ⟨rfl, hs5⟩
      have HS5 := Lib.hid hs5
      clear hs5
      go_wp2_with fail
      go_roundw
      case rel => exact ⟨1, by simp, by have h := HS5.out; rwa [be_step 0 2 6 n] at h⟩
      case measure => simp [intOf]
    · go_wp2_with fail
      refine (short_stg HS.out (by rw [be_len]; decide) _ (n / 256 ^ 4 % 256 ^ 2) (by first | (rw [wrap16]; omega) | omega) (Nat.mod_lt _ (by decide))).mono ?_
      rintro e w5 ⟨rfl, hs5⟩
      have HS5 := Lib.hid hs5
      clear hs5
      go_wp2_with fail
      go_roundw
      case rel => exact ⟨2, by simp, by have h := HS5.out; rwa [be_step 2 2 4 n] at h⟩
      case measure => simp [intOf]
    · go_wp2_with fail
      refine (short_stg HS.out (by rw [be_len]; decide) _ (n / 256 ^ 2 % 256 ^ 2) (by first | (rw [wrap16]; omega) | omega) (Nat.mod_lt _ (by decide))).mono ?_
      rintro e w5 ⟨rfl, hs5⟩
      have HS5 := Lib.hid hs5
      clear hs5
      go_wp2_with fail
      go_roundw
      case rel => exact ⟨3, by simp, by have h := HS5.out; rwa [be_step 4 2 2 n] at h⟩
      case measure => simp [intOf]
    · go_wp2_with fail
      refine (short_stg HS.out (by rw [be_len]; decide) _ (n / 256 ^ 0 % 256 ^ 2) (by first | (rw [wrap16]; omega) | omega) (Nat.mod_lt _ (by decide))).mono ?_
      rintro e w5 ⟨rfl, hs5⟩
      have HS5 := Lib.hid hs5
      clear hs5
      go_wp2_with fail
      go_roundw
      case rel => exact ⟨4, by simp, by have h := HS5.out; rwa [be_step 6 2 0 n] at h⟩
      case measure => simp [intOf]
    · have hs5 := HS.out
      rw [show n / 256 ^ (8 - 2 * 4) = n by simp] at hs5
      have N5 := Lib.hid (next_stage hs5 N3.out.2.2 hB D.out.2.1 H3.out.2 E.out.2.2.2.2.2 D.out.2.2)
      obtain ⟨cs3, hk3⟩ := N3.out.1.blk
      have H5 := Lib.hid (And.intro (H3.out.1.other hs5.fr hk3 (by decide) E.out.2.1.symm) (N3.out.2.1.other hs5.fr hk3 (by decide) E.out.2.2.2.1.symm))
      clear hs5 hk3 HS N3 H3
      go_wp2_with fail
      go_loopw [8] (fun i wq => ∃ j : Nat, (j = 0 ∧ i = .int .i64 7 ∨ j = 1 ∧ i = .int .i64 6 ∨ j = 2 ∧ i = .int .i64 5 ∨ j = 3 ∧ i = .int .i64 4 ∨ j = 4 ∧ i = .int .i64 3 ∨ j = 5 ∧ i = .int .i64 2 ∨ j = 6 ∧ i = .int .i64 1 ∨ j = 7 ∧ i = .int .i64 0 ∨ j = 8 ∧ i = .int .i64 (-1)) ∧ Stg w.heap.size wr pd (be j (n / 256 ^ (8 - j))) wq) (fun i _ => (intOf i + 1).toNat)
      case atStart => exact ⟨0, .inl ⟨rfl, rfl⟩, N5.out.1⟩
      case round =>
        obtain ⟨j, hrel, hs⟩ := hrel
        have HS := Lib.hid hs
        clear hs
        rcases hrel with ⟨rfl, rfl⟩ | ⟨rfl, rfl⟩ | ⟨rfl, rfl⟩ | ⟨rfl, rfl⟩ | ⟨rfl, rfl⟩ | ⟨rfl, rfl⟩ | ⟨rfl, rfl⟩ | ⟨rfl, rfl⟩ | ⟨rfl, rfl⟩
        · go_wp2_with fail
          refine (byte_stg HS.out (by rw [be_len]; decide) _ (n / 256 ^ 7 % 256 ^ 1) (by first | (rw [wrap8]; omega) | omega) (Nat.mod_lt _ (by decide))).mono ?_
          rintro e w5 ⟨rfl, hs5⟩
          have HS5 := Lib.hid hs5
          clear hs5
          go_wp2_with fail
          go_roundw
          case rel => exact ⟨1, by simp, by have h := HS5.out; rwa [be_step 0 1 7 n] at h⟩
          case measure => simp [intOf]
        · go_wp2_with fail
          refine (byte_stg HS.out (by rw [be_len]; decide) _ (n / 256 ^ 6 % 256 ^ 1) (by first | (rw [wrap8]; omega) | omega) (Nat.mod_lt _ (by decide))).mono ?_
          rintro e w5 ⟨rfl, hs5⟩
          have HS5 := Lib.hid hs5
          clear hs5
          go_wp2_with fail
          go_roundw
          case rel => exact ⟨2, by simp, by have h := HS5.out; rwa [be_step 1 1 6 n] at h⟩
          case measure => simp [intOf]
        · go_wp2_with fail
          refine (byte_stg HS.out (by rw [be_len]; decide) _ (n / 256 ^ 5 % 256 ^ 1) (by first | (rw [wrap8]; omega) | omega) (Nat.mod_lt _ (by decide))).mono ?_
          rintro e w5 ⟨rfl, hs5⟩
          have HS5 := Lib.hid hs5
          clear hs5
          go_wp2_with fail
          go_roundw
          case rel => exact ⟨3, by simp, by have h := HS5.out; rwa [be_step 2 1 5 n] at h⟩
          case measure => simp [intOf]
        · go_wp2_with fail
          refine (byte_stg HS.out (by rw [be_len]; decide) _ (n / 256 ^ 4 % 256 ^ 1) (by first | (rw [wrap8]; omega) | omega) (Nat.mod_lt _ (by decide))).mono ?_
          rintro e w5 ⟨rfl, hs5⟩
          have HS5 := Lib.hid hs5
          clear hs5
          go_wp2_with fail
          go_roundw
          case rel => exact ⟨4, by simp, by have h := HS5.out; rwa [be_step 3 1 4 n] at h⟩
          case measure => simp [intOf]
        · go_wp2_with fail
          refine (byte_stg HS.out (by rw [be_len]; decide) _ (n / 256 ^ 3 % 256 ^ 1) (by first | (rw [wrap8]; omega) | omega) (Nat.mod_lt _ (by decide))).mono ?_
          rintro e w5 ⟨rfl, hs5⟩
          have HS5 := Lib.hid hs5
          clear hs5
          go_wp2_with fail
          go_roundw
          case rel => exact ⟨5, by simp, by have h := HS5.out; rwa [be_step 4 1 3 n] at h⟩
          case measure => simp [intOf]
        · go_wp2_with fail
          refine (byte_stg HS.out (by rw [be_len]; decide) _ (n / 256 ^ 2 % 256 ^ 1) (by first | (rw [wrap8]; omega) | omega) (Nat.mod_lt _ (by decide))).mono ?_
          rintro e w5 ⟨rfl, hs5⟩
          have HS5 := Lib.hid hs5
          clear hs5
          go_wp2_with fail
          go_roundw
          case rel => exact ⟨6, by simp, by have h := HS5.out; rwa [be_step 5 1 2 n] at h⟩
          case measure => simp [intOf]
        · go_wp2_with fail
          refine (byte_stg HS.out (by rw [be_len]; decide) _ (n / 256 ^ 1 % 256 ^ 1) (by first | (rw [wrap8]; omega) | omega) (Nat.mod_lt _ (by decide))).mono ?_
          rintro e w5 ⟨rfl, hs5⟩
          have HS5 := Lib.hid hs5
          clear hs5
          go_wp2_with fail
          go_roundw
          case rel => exact ⟨7, by simp, by have h := HS5.out; rwa [be_step 6 1 1 n] at h⟩
          case measure => simp [intOf]
        · go_wp2_with fail
          refine (byte_stg HS.out (by rw [be_len]; decide) _ (n / 256 ^ 0 % 256 ^ 1) (by first | (rw [wrap8]; omega) | omega) (Nat.mod_lt _ (by decide))).mono ?_
          rintro e w5 ⟨rfl, hs5⟩
          have HS5 := Lib.hid hs5
          clear hs5
          go_wp2_with fail
          go_roundw
          case rel => exact ⟨8, by simp, by have h := HS5.out; rwa [be_step 7 1 0 n] at h⟩
          case measure => simp [intOf]
        · have hs5 := HS.out
          rw [show n / 256 ^ (8 - 8) = n by simp] at hs5
          obtain ⟨cs3, hk3⟩ := N5.out.1.blk
          have F6 := Lib.hid (show Four w w.heap.size pb pc pd (be 8 n) wr from ⟨H5.out.1.other hs5.fr hk3 (by decide) E.out.2.2.1.symm, H5.out.2.other hs5.fr hk3 (by decide) E.out.2.2.2.2.1.symm, N5.out.2.1.other hs5.fr hk3 (by decide) E.out.2.2.2.2.2.symm, hs5.has, N5.out.2.2.trans (hs5.fr.below (Nat.le_trans hB N5.out.2.2.size) fun k hk => by subst hk; exact D.out.2.2)⟩)
          clear hs5 hk3 HS N5 H5
          have hlen : (be 8 n).length = 8 := be_len 8 n
          have hsz : (str (be 8 n)).size = 8 := be_len 8 n
          have HL := Lib.hid hlen
          have HZ := Lib.hid hsz
          clear hlen hsz
          go_wp2_with fail
          refine (out_str F6.out.1 HL.out (by decide)).mono ?_
          rintro e w7 ⟨A7, c7, rfl, H7, es⟩
          have F7 := Lib.hid (F6.out.keep H7.out.2)
          clear F6 H7
          go_wp2_with fail
          refine (out_str F7.out.2.1 HL.out (by decide)).mono ?_
          clear es
          rintro e w8 ⟨A8, c8, rfl, H8, es⟩
          have F8 := Lib.hid (F7.out.keep H8.out.2)
          clear F7 H8
          go_wp2_with fail
          refine (out_str F8.out.2.2.1 HL.out (by decide)).mono ?_
          clear es
          rintro e w9 ⟨A9, c9, rfl, H9, es⟩
          have F9 := Lib.hid (F8.out.keep H9.out.2)
          clear F8 H9
          go_wp2_with fail
          refine (out_str F9.out.2.2.2.1 HL.out (by decide)).mono ?_
          clear es
          rintro e w10 ⟨A10, c10, rfl, H10, es⟩
          have F10 := Lib.hid (F9.out.keep H10.out.2)
          have hsz := HZ.out
          clear F9 H10
          go_wp2_with fail
          clear hsz
          refine (out_str F10.out.1 HL.out (by decide)).mono ?_
          clear es
          rintro e w11 ⟨A11, c11, rfl, H11, -⟩
          have F11 := Lib.hid (F10.out.keep H11.out.2)
          clear F10
          go_wp2_with fail
          refine (open_has w11 A11 (be 8 n) _ _ HL.out.symm (by decide) H11.out.1.bytes).mono ?_
          rintro e w12 ⟨pr, rfl, hr, hb⟩
          have F12 := Lib.hid (F11.out.keep hb)
          have R12 := Lib.hid (hr.down F11.out.2.2.2.2.size)
          clear F11 H11 hr hb
          go_wp2_with fail
          refine (out_str F12.out.1 HL.out (by decide)).mono ?_
          rintro e w13 ⟨A13, c13, rfl, H13, -⟩
          have F13 := Lib.hid (F12.out.keep H13.out.2)
          have R13 := Lib.hid (R12.out.keep H13.out.2)
          clear F12 R12
          go_wp2_with fail
          refine (open_has w13 A13 (be 8 n) _ _ HL.out.symm (by decide) H13.out.1.bytes).mono ?_
          rintro e w14 ⟨pt, rfl, hr, hb⟩
          have F14 := Lib.hid (F13.out.keep hb)
          have R14 := Lib.hid (And.intro (R13.out.keep hb) (And.intro (hr.down F13.out.2.2.2.2.size) (show pt ≠ pr from Nat.ne_of_gt (Nat.lt_of_lt_of_le R13.out.lt hr.at_))))
          clear F13 H13 hr hb R13
          go_wp2_with fail
          refine (out_str F14.out.1 HL.out (by decide)).mono ?_
          rintro e w15 ⟨A15, c15, rfl, H15, -⟩
          have F15 := Lib.hid (F14.out.keep H15.out.2)
          have R15 := Lib.hid (And.intro (R14.out.1.keep H15.out.2) (And.intro (R14.out.2.1.keep H15.out.2) R14.out.2.2))
          clear F14 R14
          go_wp2_with fail
          refine (open_has w15 A15 (be 8 n) _ _ HL.out.symm (by decide) H15.out.1.bytes).mono ?_
          rintro e w16 ⟨pu, rfl, hr, hb⟩
          have B16 := Lib.hid (F15.out.keep hb).2.2.2.2
          have R16 := Lib.hid (And.intro (R15.out.1.keep hb) (And.intro (R15.out.2.1.keep hb) (And.intro (hr.down F15.out.2.2.2.2.size) (And.intro R15.out.2.2 (And.intro (show pu ≠ pr from Nat.ne_of_gt (Nat.lt_of_lt_of_le R15.out.1.lt hr.at_)) (show pu ≠ pt from Nat.ne_of_gt (Nat.lt_of_lt_of_le R15.out.2.1.lt hr.at_)))))))
          clear F15 H15 hr hb R15
          go_wp2_with fail
          refine (rword_in R16.out.1 (by decide)).mono ?_
          rintro e w17 ⟨rfl, hr, hf⟩
          have NE := Lib.hid R16.out.2.2.2
          have R17 := Lib.hid (And.intro hr (And.intro (R16.out.2.1.next R16.out.1 hf NE.out.1) (And.intro (R16.out.2.2.1.next R16.out.1 hf NE.out.2.1) (below_next B16.out R16.out.1 hf))))
          clear hr hf R16 B16
          generalize hx1 : n / 256 ^ (8 - 0 - 4) % 256 ^ 4 = x1
          have X1 := Lib.hid hx1
          clear hx1
          go_wp2_with fail
          refine (rword_in R17.out.1 (by decide)).mono ?_
          rintro e w18 ⟨rfl, hr, hf⟩
          have R18 := Lib.hid (And.intro (R17.out.2.1.next R17.out.1 hf NE.out.1) (And.intro (R17.out.2.2.1.next R17.out.1 hf NE.out.2.1) (below_next R17.out.2.2.2 R17.out.1 hf)))
          clear hr hf R17
          generalize hx2 : n / 256 ^ (8 - (0 + 4) - 4) % 256 ^ 4 = x2
          have X2 := Lib.hid hx2
          clear hx2
          go_wp2_with fail
          rw [sum_x n x1 x2 HN.out X1.out X2.out]
          refine (rshort_in R18.out.1 (by decide)).mono ?_
          rintro e w19 ⟨rfl, hr, hf⟩
          have R19 := Lib.hid (And.intro hr (And.intro (R18.out.2.1.next R18.out.1 hf NE.out.2.2) (below_next R18.out.2.2 R18.out.1 hf)))
          clear hr hf R18 X1 X2
          generalize hx1 : n / 256 ^ (8 - 0 - 2) % 256 ^ 2 = y1
          have X1 := Lib.hid hx1
          clear hx1
          go_wp2_with fail
          refine (rbyte_in R19.out.1 (by decide)).mono ?_
          rintro e w20 ⟨rfl, hr, hf⟩
          have R20 := Lib.hid (And.intro hr (And.intro (R19.out.2.1.next R19.out.1 hf NE.out.2.2) (below_next R19.out.2.2 R19.out.1 hf)))
          clear hr hf R19
          generalize hx2 : n / 256 ^ (8 - (0 + 2) - 1) % 256 ^ 1 = y2
          have X2 := Lib.hid hx2
          clear hx2
          go_wp2_with fail
          refine (rbyte_in R20.out.1 (by decide)).mono ?_
          rintro e w21 ⟨rfl, hr, hf⟩
          have R21 := Lib.hid (And.intro hr (And.intro (R20.out.2.1.next R20.out.1 hf NE.out.2.2) (below_next R20.out.2.2 R20.out.1 hf)))
          clear hr hf R20
          generalize hx3 : n / 256 ^ (8 - (0 + 2 + 1) - 1) % 256 ^ 1 = y3
          have X3 := Lib.hid hx3
          clear hx3
          go_wp2_with fail
          refine (rword_in R21.out.1 (by decide)).mono ?_
          rintro e w22 ⟨rfl, hr, hf⟩
          have R22 := Lib.hid (And.intro (R21.out.2.1.next R21.out.1 hf NE.out.2.2) (below_next R21.out.2.2 R21.out.1 hf))
          clear hr hf R21
          generalize hx4 : n / 256 ^ (8 - (0 + 2 + 1 + 1) - 4) % 256 ^ 4 = y4
          have X4 := Lib.hid hx4
          clear hx4
          have hy := sum_y n y1 y2 y3 y4 HN.out X1.out X2.out X3.out X4.out
          clear X1 X2 X3 X4
          go_wp2_with fail
          refine (rlong_in R22.out.1 (by decide)).mono ?_
          rintro e w23 ⟨rfl, hr, hf⟩
          have B23 := Lib.hid (below_next R22.out.2 R22.out.1 hf)
          clear hr hf R22 hy
          have hz : ((n / 256 ^ (8 - 0 - 8) % 256 ^ 8 : Nat) : Int) = (n : Int) := by have := HN.out; omega
          rw [hz]
          clear hz
          go_wp2_with fail
          refine (works_any _).mono ?_
          rintro e w24 ⟨rfl, hb⟩
          have B24 := Lib.hid (next B23.out hb)
          clear hb B23
          go_wp2_with fail
          go_ret
          exact ⟨rfl, B24.out⟩
/-- The law of halves. -/
theorem halves_any (w : World) (n : Int) (hn : 0 ≤ n ∧ n ≤ 18446744073709551615) :
    Calls Try.prog 5 #[.int .u64 n] w fun e w' => e = .returned (.bool true) ∧ Below w.heap.size w w' := by
  have h := halves_nat w n.toNat (by omega)
  rwa [Int.toNat_of_nonneg hn.1] at h
end Go.Proofs.Ytbinffclijjhlaa.FdW
