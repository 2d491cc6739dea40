/- The walks of package fields' readers: numbers, rows, Open. -/
import Derived.Test.YtlmcmcafbepjmaaFieldsRd
namespace Go.Proofs.Ytlmcmcafbepjmaa.FdW
open Go.RowKit Mem Fds
set_option linter.unusedVariables false
set_option linter.unusedSimpArgs false

theorem num_take (l : List UInt8) (i : Nat) (hi : i < l.length) : num (l.take (i + 1)) = num (l.take i) * 256 + l[i].toNat := by
  rw [List.take_succ_eq_append_getElem hi, num_snoc]
theorem num_take_lt (l : List UInt8) (i nb : Nat) (hi : i < l.length) (hnb : l.length ≤ nb) : num (l.take i) * 256 + l[i].toNat < 256 ^ nb := by
  rw [← num_take l i hi]
  refine Nat.lt_of_lt_of_le (num_lt _) (Nat.pow_le_pow_right (by decide) ?_)
  rw [List.length_take]; omega
theorem nat_or (x c : Nat) (hc : c < 256) : x * 256 ||| c = x * 256 + c := nat_join 8 (x * 256) c (by omega) hc
theorem or_u8 {x c : Nat} (h : x * 256 + c < 256 ^ 1) (hc : c < 256) (a b : Int) (ha : a = ((x * 256 : Nat) : Int)) (hb : b = (c : Int)) : bits .or .u8 a b = ((x * 256 + c : Nat) : Int) := by
  subst ha; subst hb
  have e : (256 : Nat) ^ 1 = 256 := by decide
  rw [e] at h
  have h1 : x * 256 < 256 := Nat.lt_of_le_of_lt (Nat.le_add_right _ _) h
  have h2 : c < 256 := Nat.lt_of_le_of_lt (Nat.le_add_left _ _) h
  rw [u8_or_nat (x * 256) c h1 h2, nat_or x c hc]
theorem or_u16 {x c : Nat} (h : x * 256 + c < 256 ^ 2) (hc : c < 256) (a b : Int) (ha : a = ((x * 256 : Nat) : Int)) (hb : b = (c : Int)) : bits .or .u16 a b = ((x * 256 + c : Nat) : Int) := by
  subst ha; subst hb
  have e : (256 : Nat) ^ 2 = 65536 := by decide
  rw [e] at h
  have h1 : x * 256 < 65536 := Nat.lt_of_le_of_lt (Nat.le_add_right _ _) h
  have h2 : c < 65536 := Nat.lt_of_le_of_lt (Nat.le_add_left _ _) h
  rw [u16_or_nat (x * 256) c h1 h2, nat_or x c hc]
theorem or_u32 {x c : Nat} (h : x * 256 + c < 256 ^ 4) (hc : c < 256) (a b : Int) (ha : a = ((x * 256 : Nat) : Int)) (hb : b = (c : Int)) : bits .or .u32 a b = ((x * 256 + c : Nat) : Int) := by
  subst ha; subst hb
  have e : (256 : Nat) ^ 4 = 4294967296 := by decide
  rw [e] at h
  have h1 : x * 256 < 4294967296 := Nat.lt_of_le_of_lt (Nat.le_add_right _ _) h
  have h2 : c < 4294967296 := Nat.lt_of_le_of_lt (Nat.le_add_left _ _) h
  rw [u32_or_nat (x * 256) c h1 h2, nat_or x c hc]
theorem or_u64 {x c : Nat} (h : x * 256 + c < 256 ^ 8) (hc : c < 256) (a b : Int) (ha : a = ((x * 256 : Nat) : Int)) (hb : b = (c : Int)) : bits .or .u64 a b = ((x * 256 + c : Nat) : Int) := by
  subst ha; subst hb
  have e : (256 : Nat) ^ 8 = 18446744073709551616 := by decide
  rw [e] at h
  have h1 : x * 256 < 18446744073709551616 := Nat.lt_of_le_of_lt (Nat.le_add_right _ _) h
  have h2 : c < 18446744073709551616 := Nat.lt_of_le_of_lt (Nat.le_add_left _ _) h
  rw [u64_or_nat (x * 256) c h1 h2, nat_or x c hc]
/-- What a number's reading leaves. -/
def GetOk (kd : IntKind) (w : World) (base p : Nat) (A : Option Addr) (c : Nat) (l : List UInt8) (k : Nat) (f : Bool) (n : Int) (e : Ending) (w' : World) : Prop :=
  e = .returned (.int kd ((num (got l k f n) : Nat) : Int)) ∧ Rd w' base p A c l (goes l k f n) (bad l k f n) ∧ Fr (fun i => i = p) w w'
set_option maxHeartbeats 800000 in
theorem get8_any (w : World) (base p : Nat) (A : Option Addr) (c : Nat) (l : List UInt8) (k : Nat) (f : Bool) (h : Rd w base p A c l k f) :
    Calls Try.prog 61 #[.pointer (some ⟨p, 0, none⟩)] w (GetOk .u8 w base p A c l k f 1) := by
  have hlen : (got l k f 1).length ≤ 1 := by unfold got; split <;> simp; omega
  go_enter Try.func61, Try.ntmps61
  go_wp2_with fail
  refine (size8_any _ _).mono ?_
  rintro e w0 ⟨rfl, rfl⟩
  go_wp2_with fail
  refine (cut_any _ base p A c l k f 1 h).mono ?_
  rintro e w1 ⟨A1, m, c1, rfl, rfl, hB, hr, hfr⟩
  have HR := Lib.hid (And.intro hr hfr)
  clear hr hfr
  have hpost : ∀ e w', (e = .returned (.int .u8 ((num (got l k f 1) : Nat) : Int)) ∧ w1 = w') → GetOk .u8 w base p A c l k f 1 e w' := by
    rintro e w' ⟨rfl, rfl⟩
    exact ⟨rfl, HR.out.1, HR.out.2⟩
  have HP := Lib.hid hpost
  clear hpost HR
  generalize got l k f 1 = bs at *
  go_wp2_with fail
  go_loop [2, 10] (fun t i => ∃ j : Nat, j ≤ bs.length ∧ i = .int .i64 j ∧ t = .int .u8 ((num (bs.take j) : Nat) : Int)) (fun _ i => bs.length - (intOf i).toNat)
  case atStart => exact ⟨0, by omega, rfl, rfl⟩
  case round =>
    obtain ⟨j, hj, rfl, rfl⟩ := hrel
    by_cases hlt : j < bs.length
    · obtain ⟨b, off, rfl, _, hc⟩ := hB.at_ hlt
      have HN := Lib.hid (num_take bs j hlt)
      have HL := Lib.hid (num_take_lt bs j 1 hlt hlen)
      generalize num (bs.take j) = x at *
      go_wp2_with fail
      have hcl := (bs[j]).toNat_lt
      have HC := Lib.hid hcl
      clear hcl
      go_round
      case rel =>
        refine ⟨j + 1, by omega, by go_num, congrArg (Value.int .u8) ?_⟩
        rw [HN.out]
        have hl := HL.out
        have hcl := HC.out
        exact or_u8 hl hcl _ _ (by first | rfl | (simp only [IntKind.wrap_u8', IntKind.wrap_u64]; omega)) (by first | rfl | (simp only [IntKind.wrap_u8']; omega))
      case measure => simp [intOf]; omega
    · obtain rfl : j = bs.length := by omega
      rw [List.take_of_length_le (Nat.le_refl _)]
      go_wp2_with fail
      go_ret
      exact HP.out _ _ ⟨rfl, rfl⟩
set_option maxHeartbeats 800000 in
theorem get32_any (w : World) (base p : Nat) (A : Option Addr) (c : Nat) (l : List UInt8) (k : Nat) (f : Bool) (h : Rd w base p A c l k f) :
    Calls Try.prog 63 #[.pointer (some ⟨p, 0, none⟩)] w (GetOk .u32 w base p A c l k f 4) := by
  have hlen : (got l k f 4).length ≤ 4 := by unfold got; split <;> simp; omega
  go_enter Try.func63, Try.ntmps63
  go_wp2_with fail
  refine (size32_any _ _).mono ?_
  rintro e w0 ⟨rfl, rfl⟩
  go_wp2_with fail
  refine (cut_any _ base p A c l k f 4 h).mono ?_
  rintro e w1 ⟨A1, m, c1, rfl, rfl, hB, hr, hfr⟩
  have HR := Lib.hid (And.intro hr hfr)
  clear hr hfr
  have hpost : ∀ e w', (e = .returned (.int .u32 ((num (got l k f 4) : Nat) : Int)) ∧ w1 = w') → GetOk .u32 w base p A c l k f 4 e w' := by
    rintro e w' ⟨rfl, rfl⟩
    exact ⟨rfl, HR.out.1, HR.out.2⟩
  have HP := Lib.hid hpost
  clear hpost HR
  generalize got l k f 4 = bs at *
  go_wp2_with fail
  go_loop [2, 10] (fun t i => ∃ j : Nat, j ≤ bs.length ∧ i = .int .i64 j ∧ t = .int .u32 ((num (bs.take j) : Nat) : Int)) (fun _ i => bs.length - (intOf i).toNat)
  case atStart => exact ⟨0, by omega, rfl, rfl⟩
  case round =>
    obtain ⟨j, hj, rfl, rfl⟩ := hrel
    by_cases hlt : j < bs.length
    · obtain ⟨b, off, rfl, _, hc⟩ := hB.at_ hlt
      have HN := Lib.hid (num_take bs j hlt)
      have HL := Lib.hid (num_take_lt bs j 4 hlt hlen)
      generalize num (bs.take j) = x at *
      go_wp2_with fail
      have hcl := (bs[j]).toNat_lt
      have HC := Lib.hid hcl
      clear hcl
      go_round
      case rel =>
        refine ⟨j + 1, by omega, by go_num, congrArg (Value.int .u32) ?_⟩
        rw [HN.out]
        have hl := HL.out
        have hcl := HC.out
        exact or_u32 hl hcl _ _ (by first | rfl | omega | (simp only [IntKind.wrap_u32', IntKind.wrap_u64]; omega)) (by first | rfl | omega | (simp only [IntKind.wrap_u32']; omega))
      case measure => simp [intOf]; omega
    · obtain rfl : j = bs.length := by omega
      rw [List.take_of_length_le (Nat.le_refl _)]
      go_wp2_with fail
      go_ret
      exact HP.out _ _ ⟨rfl, rfl⟩
set_option maxHeartbeats 800000 in
theorem get64_any (w : World) (base p : Nat) (A : Option Addr) (c : Nat) (l : List UInt8) (k : Nat) (f : Bool) (h : Rd w base p A c l k f) :
    Calls Try.prog 62 #[.pointer (some ⟨p, 0, none⟩)] w (GetOk .u64 w base p A c l k f 8) := by
  have hlen : (got l k f 8).length ≤ 8 := by unfold got; split <;> simp; omega
  go_enter Try.func62, Try.ntmps62
  go_wp2_with fail
  refine (size64_any _ _).mono ?_
  rintro e w0 ⟨rfl, rfl⟩
  go_wp2_with fail
  refine (cut_any _ base p A c l k f 8 h).mono ?_
  rintro e w1 ⟨A1, m, c1, rfl, rfl, hB, hr, hfr⟩
  have HR := Lib.hid (And.intro hr hfr)
  clear hr hfr
  have hpost : ∀ e w', (e = .returned (.int .u64 ((num (got l k f 8) : Nat) : Int)) ∧ w1 = w') → GetOk .u64 w base p A c l k f 8 e w' := by
    rintro e w' ⟨rfl, rfl⟩
    exact ⟨rfl, HR.out.1, HR.out.2⟩
  have HP := Lib.hid hpost
  clear hpost HR
  generalize got l k f 8 = bs at *
  go_wp2_with fail
  go_loop [2, 10] (fun t i => ∃ j : Nat, j ≤ bs.length ∧ i = .int .i64 j ∧ t = .int .u64 ((num (bs.take j) : Nat) : Int)) (fun _ i => bs.length - (intOf i).toNat)
  case atStart => exact ⟨0, by omega, rfl, rfl⟩
  case round =>
    obtain ⟨j, hj, rfl, rfl⟩ := hrel
    by_cases hlt : j < bs.length
    · obtain ⟨b, off, rfl, _, hc⟩ := hB.at_ hlt
      have HN := Lib.hid (num_take bs j hlt)
      have HL := Lib.hid (num_take_lt bs j 8 hlt hlen)
      generalize num (bs.take j) = x at *
      go_wp2_with fail
      have hcl := (bs[j]).toNat_lt
      have HC := Lib.hid hcl
      clear hcl
      go_round
      case rel =>
        refine ⟨j + 1, by omega, by go_num, congrArg (Value.int .u64) ?_⟩
        rw [HN.out]
        have hl := HL.out
        have hcl := HC.out
        exact or_u64 hl hcl _ _ (by first | rfl | (simp only [IntKind.wrap_u64]; omega)) (by first | rfl | (simp only [IntKind.wrap_u64]; omega))
      case measure => simp [intOf]; omega
    · obtain rfl : j = bs.length := by omega
      rw [List.take_of_length_le (Nat.le_refl _)]
      go_wp2_with fail
      go_ret
      exact HP.out _ _ ⟨rfl, rfl⟩
end Go.Proofs.Ytlmcmcafbepjmaa.FdW
