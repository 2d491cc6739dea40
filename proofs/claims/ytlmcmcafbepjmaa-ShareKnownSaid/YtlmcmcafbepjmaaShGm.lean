/- What Get reads, in plain Lean: bytes are a share's just if the reading goes well. -/
import Derived.Test.YtlmcmcafbepjmaaShOrd
namespace Go.Proofs.Ytlmcmcafbepjmaa.ShW
open Go.RowKit Go.Shelf Mem Fds Bv FdW
set_option linter.unusedVariables false

def k1 (l : List UInt8) : Nat := goes l 0 false 1
def f1 (l : List UInt8) : Bool := bad l 0 false 1
def n1 (l : List UInt8) : Nat := num (got l 0 false 1)
def gkey (l : List UInt8) : List UInt8 := got l (k1 l) (f1 l) (n1 l)
def k2 (l : List UInt8) : Nat := goes l (k1 l) (f1 l) (n1 l)
def f2 (l : List UInt8) : Bool := bad l (k1 l) (f1 l) (n1 l)
def gver (l : List UInt8) : Nat := num (got l (k2 l) (f2 l) 8)
def k3 (l : List UInt8) : Nat := goes l (k2 l) (f2 l) 8
def f3 (l : List UInt8) : Bool := bad l (k2 l) (f2 l) 8
def gnode (l : List UInt8) : Nat := num (got l (k3 l) (f3 l) 1)
def k4 (l : List UInt8) : Nat := goes l (k3 l) (f3 l) 1
def f4 (l : List UInt8) : Bool := bad l (k3 l) (f3 l) 1
def n5 (l : List UInt8) : Nat := num (got l (k4 l) (f4 l) 4)
def k5 (l : List UInt8) : Nat := goes l (k4 l) (f4 l) 4
def f5 (l : List UInt8) : Bool := bad l (k4 l) (f4 l) 4
def grow (l : List UInt8) : List UInt8 := got l (k5 l) (f5 l) (n5 l)
def k6 (l : List UInt8) : Nat := goes l (k5 l) (f5 l) (n5 l)
def f6 (l : List UInt8) : Bool := bad l (k5 l) (f5 l) (n5 l)
/-- As an int64. -/
def sgn (n : Nat) : Int := if n < 9223372036854775808 then n else (n : Int) - 18446744073709551616
/-- What is read. -/
def rd (l : List UInt8) : Sh := ⟨gkey l, sgn (gver l), gnode l, grow l⟩
/-- Is it taken? -/
def rdOk (l t : List UInt8) : Bool := !f6 l && decide (left l (k6 l) (f6 l) = 0) && decide (num (got t 0 false 4) = (Crc.sum l).toNat) && (rd l).may
def isShare (b : List UInt8) (s : Sh) : Prop := s.may = true ∧ s.put = b ∧ s.ver ≤ 9223372036854775807

theorem step_good {l : List UInt8} {k : Nat} {f : Bool} {n : Nat} (h : bad l k f n = false) : f = false ∧ (k ≤ l.length → got l k f n = (l.drop k).take n ∧ goes l k f n = k + n ∧ k + n ≤ l.length) := by
  have h0 := h
  unfold bad left at h
  cases f with
  | true => simp at h
  | false =>
    refine ⟨rfl, fun hk => ?_⟩
    simp at h
    unfold got goes
    rw [h0]
    simp
    omega
theorem step_app {l a p r : List UInt8} {k n : Nat} (hl : l = a ++ (p ++ r)) (hk : a.length = k) (hn : p.length = n) : got l k false n = p ∧ goes l k false n = k + n ∧ bad l k false n = false := by
  have hb : bad l k false (n : Int) = false := by
    unfold bad left
    subst hl hk hn
    simp only [List.length_append]
    simp
    omega
  refine ⟨?_, ?_, hb⟩
  · unfold got; rw [hb]
    subst hl hk hn
    simp
  · unfold goes; rw [hb]; simp
theorem left_all {l : List UInt8} {k : Nat} : left l k false = l.length - k := rfl
theorem be1 {n : Nat} (h : n < 256) : num (be 1 n) = n := by rw [num_be]; exact Nat.mod_eq_of_lt h
theorem be_of {l : List UInt8} {j : Nat} (h : l.length = j) : be j (num l) = l := by subst h; exact be_num l
theorem num_inj {a b : List UInt8} (hl : a.length = b.length) (h : num a = num b) : a = b := by rw [← be_num a, ← be_num b, hl, h]
theorem take_len {l : List UInt8} {k n : Nat} (h : k + n ≤ l.length) : ((l.drop k).take n).length = n := by simp; omega
theorem take_more (l : List UInt8) (k n : Nat) : l.take (k + n) = l.take k ++ (l.drop k).take n := List.take_add
/-- The parts of a reading that went well. -/
theorem rd_parts {l : List UInt8} (h : f6 l = false) (hz : left l (k6 l) (f6 l) = 0) :
    l = be 1 (gkey l).length ++ gkey l ++ be 8 (gver l) ++ be 1 (gnode l) ++ be 4 (grow l).length ++ grow l ∧ gver l < 256 ^ 8 ∧ gnode l < 256 := by
  obtain ⟨h5, g6⟩ := step_good (l := l) (k := k5 l) (f := f5 l) (n := n5 l) h
  obtain ⟨h4, g5⟩ := step_good (l := l) (k := k4 l) (f := f4 l) (n := 4) h5
  obtain ⟨h3, g4⟩ := step_good (l := l) (k := k3 l) (f := f3 l) (n := 1) h4
  obtain ⟨h2, g3⟩ := step_good (l := l) (k := k2 l) (f := f2 l) (n := 8) h3
  obtain ⟨h1, g2⟩ := step_good (l := l) (k := k1 l) (f := f1 l) (n := n1 l) h2
  obtain ⟨_, g1⟩ := step_good (l := l) (k := 0) (f := false) (n := 1) h1
  obtain ⟨e1, s1, t1⟩ := g1 (Nat.zero_le _)
  obtain ⟨e2, s2, t2⟩ := g2 (Nat.le_trans (Nat.le_of_eq s1) t1)
  obtain ⟨e3, s3, t3⟩ := g3 (Nat.le_trans (Nat.le_of_eq s2) t2)
  obtain ⟨e4, s4, t4⟩ := g4 (Nat.le_trans (Nat.le_of_eq s3) t3)
  obtain ⟨e5, s5, t5⟩ := g5 (Nat.le_trans (Nat.le_of_eq s4) t4)
  obtain ⟨e6, s6, t6⟩ := g6 (Nat.le_trans (Nat.le_of_eq s5) t5)
  have c1 : k1 l = 0 + 1 := s1
  have c2 : k2 l = k1 l + n1 l := s2
  have c3 : k3 l = k2 l + 8 := s3
  have c4 : k4 l = k3 l + 1 := s4
  have c5 : k5 l = k4 l + 4 := s5
  have c6 : k6 l = k5 l + n5 l := s6
  have d2 : gkey l = (l.drop (k1 l)).take (n1 l) := e2
  have d6 : grow l = (l.drop (k5 l)).take (n5 l) := e6
  have l2 : (gkey l).length = n1 l := by rw [d2]; exact take_len t2
  have l6 : (grow l).length = n5 l := by rw [d6]; exact take_len t6
  have b1 : be 1 (n1 l) = (l.drop 0).take 1 := by
    rw [show n1 l = num ((l.drop 0).take 1) from congrArg num e1]; exact be_of (take_len t1)
  have b3 : be 8 (gver l) = (l.drop (k2 l)).take 8 := by
    rw [show gver l = num ((l.drop (k2 l)).take 8) from congrArg num e3]; exact be_of (take_len t3)
  have b4 : be 1 (gnode l) = (l.drop (k3 l)).take 1 := by
    rw [show gnode l = num ((l.drop (k3 l)).take 1) from congrArg num e4]; exact be_of (take_len t4)
  have b5 : be 4 (n5 l) = (l.drop (k4 l)).take 4 := by
    rw [show n5 l = num ((l.drop (k4 l)).take 4) from congrArg num e5]; exact be_of (take_len t5)
  have hend : k6 l = l.length := by
    have h' : f6 l = false := h
    rw [h', left_all] at hz
    have : k5 l + n5 l ≤ l.length := t6
    omega
  refine ⟨?_, ?_, ?_⟩
  · rw [l2, l6, b1, d2, b3, b4, b5, d6]
    conv => lhs; rw [← List.take_length (l := l), ← hend, c6, take_more, c5, take_more, c4, take_more, c3, take_more, c2, take_more, c1, take_more]
    simp [c1, c2, c3, c4, c5, c6]
  · have := num_lt ((l.drop (k2 l)).take 8)
    rw [take_len t3] at this
    rwa [show gver l = num ((l.drop (k2 l)).take 8) from congrArg num e3]
  · have := num_lt ((l.drop (k3 l)).take 1)
    rw [take_len t4] at this
    rwa [show gnode l = num ((l.drop (k3 l)).take 1) from congrArg num e4]
/-- Reading what is written. -/
theorem rd_written {key row : List UInt8} {v nd : Nat} (hk : key.length < 256) (hv : v < 256 ^ 8) (hd : nd < 256) (hm : row.length < 256 ^ 4) {l : List UInt8} (hl : l = be 1 key.length ++ key ++ be 8 v ++ be 1 nd ++ be 4 row.length ++ row) :
    gkey l = key ∧ gver l = v ∧ gnode l = nd ∧ grow l = row ∧ f6 l = false ∧ left l (k6 l) (f6 l) = 0 := by
  obtain ⟨a1, b1, c1⟩ := step_app (l := l) (a := []) (p := be 1 key.length) (r := key ++ be 8 v ++ be 1 nd ++ be 4 row.length ++ row) (k := 0) (n := 1) (by rw [hl]; simp) rfl (be_len _ _)
  have e1 : n1 l = key.length := by show num (got l 0 false 1) = _; rw [show got l 0 false 1 = _ from a1]; exact be1 hk
  have K1 : k1 l = 1 := b1
  have F1 : f1 l = false := c1
  obtain ⟨a2, b2, c2⟩ := step_app (l := l) (a := be 1 key.length) (p := key) (r := be 8 v ++ be 1 nd ++ be 4 row.length ++ row) (k := 1) (n := key.length) (by rw [hl]; simp) (be_len _ _) rfl
  have e2 : gkey l = key := by unfold gkey; rw [K1, F1, e1]; exact a2
  have K2 : k2 l = 1 + key.length := by unfold k2; rw [K1, F1, e1]; exact b2
  have F2 : f2 l = false := by unfold f2; rw [K1, F1, e1]; exact c2
  obtain ⟨a3, b3, c3⟩ := step_app (l := l) (a := be 1 key.length ++ key) (p := be 8 v) (r := be 1 nd ++ be 4 row.length ++ row) (k := 1 + key.length) (n := 8) (by rw [hl]; simp) (by simp [be_len] <;> omega) (be_len _ _)
  have e3 : gver l = v := by unfold gver; rw [K2, F2, show got l (1 + key.length) false 8 = _ from a3, num_be]; exact Nat.mod_eq_of_lt hv
  have K3 : k3 l = 1 + key.length + 8 := by unfold k3; rw [K2, F2]; exact b3
  have F3 : f3 l = false := by unfold f3; rw [K2, F2]; exact c3
  obtain ⟨a4, b4, c4⟩ := step_app (l := l) (a := be 1 key.length ++ key ++ be 8 v) (p := be 1 nd) (r := be 4 row.length ++ row) (k := 1 + key.length + 8) (n := 1) (by rw [hl]; simp) (by simp [be_len] <;> omega) (be_len _ _)
  have e4 : gnode l = nd := by unfold gnode; rw [K3, F3, show got l (1 + key.length + 8) false 1 = _ from a4]; exact be1 hd
  have K4 : k4 l = 1 + key.length + 8 + 1 := by unfold k4; rw [K3, F3]; exact b4
  have F4 : f4 l = false := by unfold f4; rw [K3, F3]; exact c4
  obtain ⟨a5, b5, c5⟩ := step_app (l := l) (a := be 1 key.length ++ key ++ be 8 v ++ be 1 nd) (p := be 4 row.length) (r := row) (k := 1 + key.length + 8 + 1) (n := 4) (by rw [hl]; simp) (by simp [be_len] <;> omega) (be_len _ _)
  have e5 : n5 l = row.length := by unfold n5; rw [K4, F4, show got l (1 + key.length + 8 + 1) false 4 = _ from a5, num_be]; exact Nat.mod_eq_of_lt hm
  have K5 : k5 l = 1 + key.length + 8 + 1 + 4 := by unfold k5; rw [K4, F4]; exact b5
  have F5 : f5 l = false := by unfold f5; rw [K4, F4]; exact c5
  obtain ⟨a6, b6, c6⟩ := step_app (l := l) (a := be 1 key.length ++ key ++ be 8 v ++ be 1 nd ++ be 4 row.length) (p := row) (r := []) (k := 1 + key.length + 8 + 1 + 4) (n := row.length) (by rw [hl]; simp) (by simp [be_len] <;> omega) rfl
  have e6 : grow l = row := by unfold grow; rw [K5, F5, e5]; exact a6
  have K6 : k6 l = 1 + key.length + 8 + 1 + 4 + row.length := by unfold k6; rw [K5, F5, e5]; exact b6
  have F6 : f6 l = false := by unfold f6; rw [K5, F5, e5]; exact c6
  refine ⟨e2, e3, e4, e6, F6, ?_⟩
  rw [F6, left_all, K6, hl]
  simp [be_len]; omega
theorem may_parts {s : Sh} (h : s.may = true) : 1 ≤ s.key.length ∧ s.key.length ≤ 64 ∧ 1 ≤ s.ver ∧ 0 ≤ s.node ∧ s.node < 255 ∧ s.row.length ≤ 65536 := of_decide_eq_true (show decide (_ ∧ _) = true from h)
theorem sum_lt (l : List UInt8) : (Crc.sum l).toNat < 256 ^ 4 := (Crc.sum l).isLt
theorem word_of {t : List UInt8} (h : t.length = 4) : num (got t 0 false 4) = num t := by
  obtain ⟨a, _, _⟩ := step_app (l := t) (a := []) (p := t) (r := []) (k := 0) (n := 4) (by simp) rfl h
  exact congrArg num a
theorem rdOk_share {l t : List UInt8} (ht : t.length = 4) (h : rdOk l t = true) : isShare (l ++ t) (rd l) := by
  unfold rdOk at h
  simp only [Bool.and_eq_true, Bool.not_eq_true', decide_eq_true_eq] at h
  obtain ⟨⟨⟨h1, h2⟩, h3⟩, h4⟩ := h
  obtain ⟨hp, hv, hd⟩ := rd_parts h1 h2
  obtain ⟨m1, m2, m3, m4, m5, m6⟩ := may_parts h4
  have hver : (rd l).ver = (gver l : Int) := by
    show sgn _ = _
    have : 1 ≤ sgn (gver l) := m3
    unfold sgn at this ⊢
    split
    · rfl
    · rename_i hn; rw [if_neg hn] at this; have : gver l < 18446744073709551616 := hv; omega
  have hb : (rd l).body = l := by
    conv => rhs; rw [hp]
    unfold Sh.body
    rw [hver]
    rfl
  refine ⟨h4, ?_, ?_⟩
  · unfold Sh.put
    rw [hb, ← h3, word_of ht, be_of ht]
  · rw [hver]
    have : 1 ≤ sgn (gver l) := m3
    unfold sgn at this
    split at this
    · omega
    · have : gver l < 18446744073709551616 := hv; omega
theorem share_rdOk {l t : List UInt8} {s : Sh} (ht : t.length = 4) (h : isShare (l ++ t) s) : rdOk l t = true ∧ rd l = s := by
  obtain ⟨hm, hp, hb⟩ := h
  obtain ⟨m1, m2, m3, m4, m5, m6⟩ := may_parts hm
  unfold Sh.put at hp
  obtain ⟨e1, e2⟩ := List.append_inj' hp (by rw [be_len, ht])
  obtain ⟨v, hv⟩ : ∃ v : Nat, s.ver = (v : Int) := ⟨s.ver.toNat, by omega⟩
  obtain ⟨nd, hnd⟩ : ∃ nd : Nat, s.node = (nd : Int) := ⟨s.node.toNat, by omega⟩
  obtain ⟨g1, g2, g3, g4, g5, g6⟩ := rd_written (key := s.key) (row := s.row) (v := v) (nd := nd) (l := l) (by omega) (by rw [hv] at hb; show v < 18446744073709551616; omega) (by omega) (by show _ < 4294967296; omega) (by rw [← e1]; unfold Sh.body; rw [hv, hnd]; rfl)
  have hr : rd l = s := by
    unfold rd
    rw [g1, g2, g3, g4]
    have : sgn v = s.ver := by unfold sgn; rw [if_pos (by omega), hv]
    rw [this, ← hnd]
  refine ⟨?_, hr⟩
  unfold rdOk
  rw [hr, hm, g6, g5, word_of ht, ← e2, e1, num_be, Nat.mod_eq_of_lt (sum_lt _)]
  simp
theorem share_one {b : List UInt8} {s t : Sh} (h : isShare b s) (h' : isShare b t) : s = t := by
  have hl : 4 ≤ b.length := by have := put_len s; rw [h.2.1] at this; omega
  have e : b = b.take (b.length - 4) ++ b.drop (b.length - 4) := (List.take_append_drop _ _).symm
  have ht : (b.drop (b.length - 4)).length = 4 := by simp; omega
  rw [e] at h h'
  rw [← (share_rdOk ht h).2, ← (share_rdOk ht h').2]
/-- How long the key is. -/
def pk (b : List UInt8) : Nat := (b.getD 0 0).toNat
/-- What the document reads. -/
def parse (b : List UInt8) : Sh := ⟨(b.drop 1).take (pk b), sgn (num ((b.drop (1 + pk b)).take 8)), num ((b.drop (9 + pk b)).take 1), (b.take (b.length - 4)).drop (14 + pk b)⟩
theorem mid_of {b a p r : List UInt8} {k n : Nat} (hb : b = a ++ (p ++ r)) (hk : a.length = k) (hn : p.length = n) : (b.drop k).take n = p := by subst hb hk hn; simp
theorem parse_share {b : List UInt8} {t : Sh} (h : isShare b t) : 18 + pk b ≤ b.length ∧ parse b = t := by
  obtain ⟨hm, hp, hb⟩ := h
  obtain ⟨m1, m2, m3, m4, m5, m6⟩ := may_parts hm
  obtain ⟨v, hv⟩ : ∃ v : Nat, t.ver = (v : Int) := ⟨t.ver.toNat, by omega⟩
  obtain ⟨nd, hnd⟩ : ∃ nd : Nat, t.node = (nd : Int) := ⟨t.node.toNat, by omega⟩
  have hlen := put_len t
  rw [hp] at hlen
  unfold Sh.put Sh.body at hp
  rw [hv, hnd, Int.toNat_natCast, Int.toNat_natCast] at hp
  obtain ⟨c, hc⟩ : ∃ c, be 4 (Crc.sum (be 1 t.key.length ++ t.key ++ be 8 v ++ be 1 nd ++ be 4 t.row.length ++ t.row)).toNat = c := ⟨_, rfl⟩
  have hcl : c.length = 4 := by rw [← hc, be_len]
  rw [hc] at hp
  have hpk : pk b = t.key.length := by
    unfold pk
    rw [← hp]
    show (UInt8.ofNat (t.key.length / 256 ^ 0)).toNat = _
    rw [UInt8.toNat_ofNat']; show t.key.length / 1 % 256 = _; omega
  refine ⟨by omega, ?_⟩
  unfold parse
  rw [hpk, mid_of (b := b) (a := be 1 t.key.length) (p := t.key) (r := be 8 v ++ be 1 nd ++ be 4 t.row.length ++ t.row ++ c) (by rw [← hp]; simp) (be_len _ _) rfl,
    mid_of (b := b) (a := be 1 t.key.length ++ t.key) (p := be 8 v) (r := be 1 nd ++ be 4 t.row.length ++ t.row ++ c) (by rw [← hp]; simp) (by simp [be_len]) (be_len _ _),
    mid_of (b := b) (a := be 1 t.key.length ++ t.key ++ be 8 v) (p := be 1 nd) (r := be 4 t.row.length ++ t.row ++ c) (by rw [← hp]; simp) (by simp [be_len]; omega) (be_len _ _),
    num_be, Nat.mod_eq_of_lt (show v < 18446744073709551616 by omega), be1 (by omega)]
  have hrow : (b.take (b.length - 4)).drop (14 + t.key.length) = t.row := by
    have e : b = (be 1 t.key.length ++ t.key ++ be 8 v ++ be 1 nd ++ be 4 t.row.length ++ t.row) ++ c := hp.symm
    have e2 : b.take (b.length - 4) = be 1 t.key.length ++ t.key ++ be 8 v ++ be 1 nd ++ be 4 t.row.length ++ t.row := by
      conv => lhs; rw [e]
      exact List.take_left' (by have := congrArg List.length hp; simp [be_len, hcl] at this; simp [be_len, hcl]; omega)
    rw [e2]
    exact List.drop_left' (by simp [be_len]; omega)
  rw [hrow, show sgn v = t.ver from by unfold sgn; rw [if_pos (by omega), hv], ← hnd]
end Go.Proofs.Ytlmcmcafbepjmaa.ShW
