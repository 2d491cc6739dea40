/- The law DiskFates: its walk. -/
import Derived.Test.YtjpelifafmkdpaaDkSe
namespace Go.Proofs.Ytjpelifafmkdpaa.DkW
open Go.RowKit Go.Shelf Mem Rng
set_option linter.unusedVariables false

theorem atB_pad (b : List UInt8) (k : Nat) : atB (pad b) k = atB b k := by
  unfold atB pad
  by_cases h : k < b.length
  · rw [List.getElem?_append_left h]
  · rw [List.getElem?_append_right (by omega), List.getElem?_replicate, List.getElem?_eq_none (l := b) (by omega)]
    split <;> rfl
theorem atB_z (k : Nat) : atB z256 k = 0 := by
  unfold atB z256
  rw [List.getElem?_replicate]
  split <;> rfl
theorem atB_upd (f : Int → List UInt8) (i a : Int) (l : List UInt8) (k : Nat) : atB (upd f i l a) k = if a = i then atB l k else atB (f a) k := by
  unfold upd
  split <;> rfl
theorem atB_mix {b s : List UInt8} {R k : Nat} (hb : b.length = 256) (hR : R ≤ 256) (hs : s.length = 256) : atB (b.take R ++ s.drop R) k = if k < R then atB b k else atB s k := by
  unfold atB
  by_cases h : k < R
  · rw [if_pos h, List.getElem?_append_left (by rw [List.length_take]; omega), List.getElem?_take, if_pos h]
  · rw [if_neg h, List.getElem?_append_right (by rw [List.length_take]; omega), List.getElem?_drop, List.length_take, Nat.min_eq_left (by omega), show R + (k - R) = k from by omega]
theorem nowOf_snoc (N : Int → List UInt8) (l : List Open.OneP) (x : Open.OneP) : nowOf N (l ++ [x]) = upd (nowOf N l) ((x.i.toNat % 4 : Nat) : Int) (pad x.b) := by
  unfold nowOf; rw [List.foldl_append]; rfl
theorem latesOf_snoc (l : List Open.OneP) (x : Open.OneP) : latesOf (l ++ [x]) = latesOf l ++ [(((x.i.toNat % 4 : Nat) : Int), pad x.b)] := by
  unfold latesOf; rw [List.map_append]; rfl
theorem nowOf_len {l : List Open.OneP} : ∀ {N : Int → List UInt8}, (∀ x ∈ l, x.b.length ≤ 256) → (∀ i, (N i).length = 256) → ∀ i, (nowOf N l i).length = 256 := by
  induction l with
  | nil => intro N _ h; exact h
  | cons y r ih =>
    intro N hl h
    refine ih (N := upd N _ _) (fun x hx => hl x (by simp [hx])) fun i => ?_
    unfold upd
    split
    · exact pad_len (hl y (by simp))
    · exact h i
theorem fated_past (fates : List UInt8) (a : Int) : ∀ (L : List (Int × List UInt8)) (k : Nat) (S : Int → List UInt8), fates.length ≤ k → fated fates k L S a = S a
  | [], _, _, _ => rfl
  | (j, b) :: r, k, S, h => by
    show fated fates (k + 1) r _ a = _
    rw [fated_past fates a r (k + 1) _ (by omega)]
    have : reach fates k = 0 := by unfold reach; rw [List.getElem?_eq_none h]
    rw [this, List.take_zero, List.nil_append, List.drop_zero]
    unfold upd
    split
    · rename_i e; rw [e]
    · rfl
theorem fated_app (fates : List UInt8) : ∀ (L M : List (Int × List UInt8)) (k : Nat) (S : Int → List UInt8), fated fates k (L ++ M) S = fated fates (k + L.length) M (fated fates k L S)
  | [], _, _, _ => rfl
  | (i, b) :: r, M, k, S => by
    show fated fates (k + 1) (r ++ M) _ = _
    rw [fated_app fates r M (k + 1), List.length_cons, show k + 1 + r.length = k + (r.length + 1) from by omega]
    rfl
/-- The byte k of block a behind the settled writes l and the late ones r. -/
def wS (l : List Open.OneP) (a k : Nat) : UInt8 := atB (nowOf (fun _ => z256) l (a : Int)) k
def wF (fates : List UInt8) (l r : List Open.OneP) (a k : Nat) : UInt8 := atB (fated fates 0 (latesOf r) (nowOf (fun _ => z256) l) (a : Int)) k
theorem wS_nil (a k : Nat) : wS [] a k = 0 := atB_z k
theorem wS_snoc (l : List Open.OneP) (x : Open.OneP) (a k : Nat) : wS (l ++ [x]) a k = if x.i.toNat % 4 = a then atB x.b k else wS l a k := by
  unfold wS
  rw [nowOf_snoc, atB_upd, atB_pad]
  by_cases h : x.i.toNat % 4 = a
  · rw [if_pos h, if_pos (by rw [h])]
  · rw [if_neg h, if_neg (by omega)]
theorem wF_nil (fates : List UInt8) (l : List Open.OneP) (a k : Nat) : wF fates l [] a k = wS l a k := rfl
theorem wF_snoc (fates : List UInt8) {l r : List Open.OneP} (x : Open.OneP) (a k : Nat) (hl : ∀ x ∈ l, x.b.length ≤ 256) (hr : ∀ x ∈ r, x.b.length ≤ 256) (hx : x.b.length ≤ 256) : wF fates l (r ++ [x]) a k = if x.i.toNat % 4 = a ∧ k < reach fates r.length then atB x.b k else wF fates l r a k := by
  unfold wF
  have hS := nowOf_len (N := fun _ => z256) hl (fun _ => z256_len)
  have hf := fated_len fates (latesOf r) 0 _ (fun y hy => by obtain ⟨z, hz, rfl⟩ := List.mem_map.1 hy; exact pad_len (hr z hz)) hS
  rw [latesOf_snoc, fated_snoc, show 0 + (latesOf r).length = r.length from by unfold latesOf; rw [List.length_map, Nat.zero_add]]
  unfold fate1
  rw [atB_upd, atB_mix (pad_len hx) (reach_le _ _) (hf _), atB_pad]
  dsimp only
  by_cases h : x.i.toNat % 4 = a
  · have h' : (a : Int) = ((x.i.toNat % 4 : Nat) : Int) := by rw [h]
    rw [if_pos h']
    by_cases h2 : k < reach fates r.length
    · rw [if_pos h2, if_pos ⟨h, h2⟩]
    · rw [if_neg h2, if_neg (fun h => h2 h.2), h]
  · rw [if_neg (show ¬ (a : Int) = ((x.i.toNat % 4 : Nat) : Int) from by omega), if_neg (fun h2 => h h2.1)]
theorem wF_past (fates : List UInt8) (l r : List Open.OneP) (j a k : Nat) (hj : fates.length ≤ j) : wF fates l (r.take j) a k = wF fates l r a k := by
  by_cases hjr : j ≤ r.length
  · unfold wF
    conv => rhs; rw [← List.take_append_drop j r]
    rw [show latesOf (r.take j ++ r.drop j) = latesOf (r.take j) ++ latesOf (r.drop j) from by unfold latesOf; rw [List.map_append], fated_app]
    rw [fated_past fates _ (latesOf (r.drop j)) _ _ (by unfold latesOf; rw [List.length_map, List.length_take]; omega)]
  · rw [List.take_of_length_le (by omega)]
theorem reach_of {fates : List UInt8} {j k : Nat} {t : UInt8} (h : fates[j]? = some t) (hk : k < 256) : k < reach fates j ↔ (t.toNat = 255 ∨ k < t.toNat) := by
  unfold reach
  rw [h]
  dsimp only
  split
  · exact ⟨fun _ => .inl ‹_›, fun _ => hk⟩
  · exact ⟨.inr, fun h => h.resolve_left ‹_›⟩
theorem fates_is (fates : List UInt8) (l r : List Open.OneP) (a k : Nat) : atB (((wrOf l r).crash.on fates).N (a : Int)) k = wF fates l r a k := by rw [wrOf_eq]; rfl
set_option maxRecDepth 100000 in
set_option maxHeartbeats 8000000 in
theorem fates_any (w : World) (A : Option Addr) (l : List Open.OneP) (c : Nat) (hcl : l.length ≤ c) (hmx : c ≤ maxLen) (hF : Cells w w.heap.size A (l.flatMap Open.OneP.cells)) (hg : ∀ x ∈ l, x.good w)
    (B : Option Addr) (r : List Open.OneP) (d : Nat) (hdl : r.length ≤ d) (hmd : d ≤ maxLen) (hG : Cells w w.heap.size B (r.flatMap Open.OneP.cells)) (hgr : ∀ x ∈ r, x.good w)
    (C : Option Addr) (one : List UInt8) (c1 : Nat) (h1l : one.length ≤ c1) (h1m : c1 ≤ maxLen) (h1 : Bytes w w.heap.size C one) :
    Calls Try.prog 5 #[.slice A l.length c, .slice B r.length d, .slice C one.length c1] w fun e w' => e = .returned (.bool true) ∧ Below w.heap.size w w' := by
  have HSl := Lib.hid (small_any w A l c hF (by unfold maxLen at hmx; omega))
  have HSr := Lib.hid (small_any w B r d hG (by unfold maxLen at hmd; omega))
  obtain ⟨n, hn⟩ : ∃ n, l.length = n := ⟨_, rfl⟩
  obtain ⟨m, hm⟩ : ∃ m, r.length = m := ⟨_, rfl⟩
  obtain ⟨n1, hn1⟩ : ∃ n1, one.length = n1 := ⟨_, rfl⟩
  rw [hn] at HSl
  rw [hm] at HSr
  rw [hn, hm, hn1]
  have HL := Lib.hid (And.intro hn (And.intro hF hg))
  have HR := Lib.hid (And.intro hm (And.intro hG hgr))
  have H1 := Lib.hid (And.intro hn1 h1)
  clear hn hm hn1 hF hG hg hgr h1 hcl hmx hdl hmd h1l h1m
  go_enter Try.func5, Try.ntmps5
  go_wp2_with fail
  refine HSl.out.mono ?_
  rintro e w' ⟨⟨b, rfl, hs⟩, rfl⟩
  cases b with
  | false =>
    clear hs
    go_wp2_with fail
    refine (works_any w).mono ?_
    rintro e w9 ⟨rfl, hb⟩
    have H9 := Lib.hid hb
    clear hb
    go_wp2_with fail
    go_ret
    exact ⟨rfl, H9.out⟩
  | true =>
    have HS1 := Lib.hid (hs rfl)
    have hn40 : (n : Int) ≤ 40 := by have h1 := HS1.out.1; have h2 := HL.out.1; omega
    clear hs
    go_wp2_with fail
    refine HSr.out.mono ?_
    rintro e w' ⟨⟨b, rfl, hs⟩, rfl⟩
    cases b with
    | false =>
      clear hs
      go_wp2_with fail
      refine (works_any w).mono ?_
      rintro e w9 ⟨rfl, hb⟩
      have H9 := Lib.hid hb
      clear hb
      go_wp2_with fail
      go_ret
      exact ⟨rfl, H9.out⟩
    | true =>
      have HS2 := Lib.hid (hs rfl)
      have hm40 : (m : Int) ≤ 40 := by have h1 := HS2.out.1; have h2 := HR.out.1; omega
      clear hs
      by_cases h60 : n1 ≤ 60
      · have g1 : ¬ (60 : Int) < (n1 : Int) := by omega
        go_wp2_with fail
        refine (dwritten (DSt.start w) A B l r n m c d HL.out.1 HR.out.1 HS1.out HS2.out HL.out.2.1 HR.out.2.1 HL.out.2.2 HR.out.2.2).mono ?_
        rintro e w1 ⟨p1, rfl, h⟩
        have K1 := Lib.hid (show DSt w [(p1, wrOf l r)] (fun _ => False) w1 from h)
        clear h
        go_wp2_with fail
        refine (dcrash K1.out (i := 0) rfl).mono ?_
        rintro e w2 ⟨rfl, h, hf⟩
        have K2 := Lib.hid (show DSt w [(p1, (wrOf l r).crash)] (fun _ => False) w2 from h)
        clear h hf
        go_wp2_with fail
        refine (don K2.out (i := 0) rfl C one n1 c1 H1.out.1 ((H1.out.2.below K2.out.below).up K2.out.below.size) (by rw [H1.out.1]; omega)).mono ?_
        rintro e w3 ⟨rfl, h, hf⟩
        obtain ⟨s1, hs1⟩ : ∃ s1, (wrOf l r).crash.on one = s1 := ⟨_, rfl⟩
        have K3 := Lib.hid (show DSt w [(p1, s1)] (fun _ => False) w3 from by rw [← hs1]; exact h)
        have HN := Lib.hid (show On4 s1 ∧ s1.L = [] ∧ ∀ a k : Nat, atB (s1.N (a : Int)) k = wF one l r a k from by rw [← hs1]; exact ⟨on4_on (s := (wrOf l r).crash) (wr4 l r).1 one rfl, rfl, fates_is one l r⟩)
        clear h hf hs1
        go_wp2_with fail
        go_loopw [9] (fun i wr => ∃ a : Nat, i = .int .i64 (a : Int) ∧ a ≤ 4 ∧ DSt w [(p1, s1)] (fun _ => False) wr) (fun i _ => 4 - (intOf i).toNat)
        case atStart => exact ⟨0, rfl, Nat.zero_le _, K3.out⟩
        case round =>
          obtain ⟨a, rfl, ha, h⟩ := hrel
          have K4 := Lib.hid h
          clear h K3
          obtain ⟨w4, rfl⟩ : ∃ w4 : World, w4 = wr := ⟨_, rfl⟩
          by_cases ha4 : a < 4
          · have ha1 : (a : Int) < 4 := by omega
            have ha0 : (0 : Int) ≤ (a : Int) := by omega
            go_wp2_with fail
            refine (dread2 K4.out (i := 0) rfl (a : Int) ⟨by omega, by omega⟩ (HN.out.1.may a ha4 0 (by decide))).mono ?_
            rintro e w5 ⟨g, rfl, hr, hl, h, hb⟩
            have K5 := Lib.hid (And.intro hr (And.intro hl (DSt.less h (Y := fun _ => False) (fun _ h => h.elim))))
            clear h hb hr hl
            go_wp2_with fail
            go_loopw [12] (fun i wr => ∃ k : Nat, i = .int .i64 (k : Int) ∧ k ≤ 256 ∧ Below w5.heap.size w5 wr) (fun i _ => 256 - (intOf i).toNat)
            case atStart => exact ⟨0, rfl, Nat.zero_le _, Mem.start w5⟩
            case round =>
              obtain ⟨k, rfl, hk, h⟩ := hrel
              have K6 := Lib.hid h
              clear h
              obtain ⟨w6, rfl⟩ : ∃ w6 : World, w6 = wr := ⟨_, rfl⟩
              by_cases hk2 : k < 256
              · have hk1 : (k : Int) < 256 := by omega
                have hk0 : (0 : Int) ≤ (k : Int) := by omega
                go_wp2_with fail
                go_loopw [13, 14] (fun v i wr => ∃ j : Nat, i = .int .i64 (j : Int) ∧ v = .int .u8 ((wS (l.take j) a k).toNat : Int) ∧ j ≤ n ∧ Below w5.heap.size w5 wr) (fun _ i _ => n - (intOf i).toNat)
                case atStart => exact ⟨0, rfl, by rw [List.take_zero, wS_nil]; rfl, Nat.zero_le _, K6.out⟩
                case round =>
                  obtain ⟨j, rfl, rfl, hj, h⟩ := hrel
                  have K7 := Lib.hid h
                  clear h
                  obtain ⟨w7, rfl⟩ : ∃ w7 : World, w7 = wr := ⟨_, rfl⟩
                  obtain ⟨v, hv⟩ : ∃ v, wS (l.take j) a k = v := ⟨_, rfl⟩
                  rw [hv]
                  by_cases hjn : j < n
                  · obtain ⟨x, hx⟩ : ∃ x, l[j]? = some x := ⟨l[j]'(by rw [HL.out.1]; exact hjn), List.getElem?_eq_getElem _⟩
                    have hbw := next K5.out.2.2.below K7.out
                    obtain ⟨b, off, rfl, hbl, hc0, hc1⟩ := Open.put_at (HL.out.2.1.below hbw) hx
                    have hg := HL.out.2.2 x (List.mem_of_getElem? hx)
                    have hx256 := HS1.out.2 x (List.mem_of_getElem? hx)
                    obtain ⟨m2, hm2⟩ : ∃ m2, x.b.length = m2 := ⟨_, rfl⟩
                    rw [hm2] at hc1
                    have HAT := Lib.hid (at_any w7 (x.i.toNat : Int) x.A x.b m2 x.c k hm2 (by omega) hk2 ((hg.1.below hbw).up hbw.size))
                    have h0 : (0 : Int) ≤ (j : Int) := by omega
                    have h1 : (j : Int) < (n : Int) := by omega
                    have hr4 : (x.i.toNat : Int).tmod 4 = ((x.i.toNat % 4 : Nat) : Int) := by rw [Int.tmod_eq_emod_of_nonneg (by omega)]; omega
                    have hr0 : (0 : Int) ≤ ((x.i.toNat % 4 : Nat) : Int) := by omega
                    have hr3 : ((x.i.toNat % 4 : Nat) : Int) < 4 := by omega
                    have HSN := Lib.hid (wS_snoc (l.take j) x a k)
                    rw [← take_snoc hx, hv] at HSN
                    obtain ⟨i4, hi4⟩ : ∃ i4, x.i.toNat % 4 = i4 := ⟨_, rfl⟩
                    rw [hi4] at hr4 hr0 hr3 HSN
                    have hwr : IntKind.i64.wrap (i4 : Int) = (i4 : Int) := IntWalk.i64_in _ (by omega)
                    clear hx hg hx256 hm2 hbl hi4 hbw hv
                    by_cases hia : i4 = a
                    · have hia1 : ((i4 : Int) == (a : Int)) = true := by simp [hia]
                      have HIA := Lib.hid hia
                      clear hia
                      go_wp2_with fail
                      refine HAT.out.mono ?_
                      rintro e w8 ⟨rfl, hb⟩
                      have K8 := Lib.hid (next K7.out hb)
                      clear hb hc0 hc1
                      go_wp2_with fail
                      go_roundw
                      case rel => exact ⟨j + 1, rfl, by rw [HSN.out, if_pos HIA.out], hjn, K8.out⟩
                      case measure => simp [intOf]; omega
                    · have hia1 : ((i4 : Int) == (a : Int)) = false := by simp; omega
                      go_wp2_with fail
                      go_roundw
                      case rel => exact ⟨j + 1, rfl, by rw [HSN.out, if_neg hia], hjn, K7.out⟩
                      case measure => simp [intOf]; omega
                  · obtain rfl : n = j := by omega
                    have HV := Lib.hid (show wF one l [] a k = v from by rw [wF_nil, ← hv, ← HL.out.1, List.take_length])
                    clear hv
                    go_wp2_with fail
                    go_loopw [13, 15] (fun v i wr => ∃ j : Nat, i = .int .i64 (j : Int) ∧ v = .int .u8 ((wF one l (r.take j) a k).toNat : Int) ∧ j ≤ m ∧ Below w5.heap.size w5 wr) (fun _ i _ => m - (intOf i).toNat)
                    case atStart => exact ⟨0, rfl, by rw [List.take_zero, HV.out], Nat.zero_le _, K7.out⟩
                    case round =>
                      clear HV
                      obtain ⟨j, rfl, rfl, hj, h⟩ := hrel
                      have K9 := Lib.hid h
                      clear h
                      obtain ⟨w9, rfl⟩ : ∃ w9 : World, w9 = wr := ⟨_, rfl⟩
                      obtain ⟨v, hv⟩ : ∃ v, wF one l (r.take j) a k = v := ⟨_, rfl⟩
                      rw [hv]
                      by_cases hjm : j < m
                      · by_cases hjf : j < n1
                        · obtain ⟨x, hx⟩ : ∃ x, r[j]? = some x := ⟨r[j]'(by rw [HR.out.1]; exact hjm), List.getElem?_eq_getElem _⟩
                          have hbw := next K5.out.2.2.below K9.out
                          obtain ⟨b, off, rfl, hbl, hc0, hc1⟩ := Open.put_at (HR.out.2.1.below hbw) hx
                          obtain ⟨fb, fo, rfl, hfb, hfc⟩ := (H1.out.2.below hbw).at_ (k := j) (by rw [H1.out.1]; exact hjf)
                          obtain ⟨t, ht⟩ : ∃ t, one[j]? = some t := ⟨one[j]'(by rw [H1.out.1]; exact hjf), List.getElem?_eq_getElem _⟩
                          rw [(List.getElem?_eq_some_iff.1 ht).2] at hfc
                          have hg := HR.out.2.2 x (List.mem_of_getElem? hx)
                          have hx256 := HS2.out.2 x (List.mem_of_getElem? hx)
                          obtain ⟨m2, hm2⟩ : ∃ m2, x.b.length = m2 := ⟨_, rfl⟩
                          rw [hm2] at hc1
                          have HAT := Lib.hid (at_any w9 (x.i.toNat : Int) x.A x.b m2 x.c k hm2 (by omega) hk2 ((hg.1.below hbw).up hbw.size))
                          have h0 : (0 : Int) ≤ (j : Int) := by omega
                          have h1 : (j : Int) < (m : Int) := by omega
                          have h2 : (j : Int) < (n1 : Int) := by omega
                          have hr4 : (x.i.toNat : Int).tmod 4 = ((x.i.toNat % 4 : Nat) : Int) := by rw [Int.tmod_eq_emod_of_nonneg (by omega)]; omega
                          have hr0 : (0 : Int) ≤ ((x.i.toNat % 4 : Nat) : Int) := by omega
                          have hr3 : ((x.i.toNat % 4 : Nat) : Int) < 4 := by omega
                          have hsn := wF_snoc one (l := l) (r := r.take j) x a k HS1.out.2 (fun y hy => HS2.out.2 y (List.mem_of_mem_take hy)) hx256
                          rw [← take_snoc hx, hv, List.length_take, HR.out.1, Nat.min_eq_left (Nat.le_of_lt hjm)] at hsn
                          simp only [reach_of ht hk2] at hsn
                          obtain ⟨t0, ht0⟩ : ∃ t0, t.toNat = t0 := ⟨_, rfl⟩
                          have ht255 : (t0 : Int) ≤ 255 := by have := t.toNat_lt; omega
                          have ht00 : (0 : Int) ≤ (t0 : Int) := by omega
                          rw [ht0] at hsn hfc
                          have HSN := Lib.hid hsn
                          obtain ⟨i4, hi4⟩ : ∃ i4, x.i.toNat % 4 = i4 := ⟨_, rfl⟩
                          rw [hi4] at hr4 hr0 hr3 HSN
                          have hwr : IntKind.i64.wrap (i4 : Int) = (i4 : Int) := IntWalk.i64_in _ (by omega)
                          have hwt : IntKind.i64.wrap (t0 : Int) = (t0 : Int) := IntWalk.i64_in _ (by omega)
                          clear hx hg hx256 hm2 hbl hi4 hbw hv ht hsn ht0 hfb
                          by_cases hia : i4 = a
                          · have hia1 : ((i4 : Int) == (a : Int)) = true := by simp [hia]
                            by_cases ht5 : t0 = 255
                            · have ht6 : ((t0 : Int) == 255) = true := by simp [ht5]
                              have HIA := Lib.hid (And.intro hia (Or.inl (b := k < t0) ht5))
                              clear hia ht5 hwt
                              go_wp2_with fail
                              refine HAT.out.mono ?_
                              rintro e w8 ⟨rfl, hb⟩
                              have K8 := Lib.hid (next K9.out hb)
                              clear hb hc0 hc1 hfc
                              go_wp2_with fail
                              go_roundw
                              case rel => exact ⟨j + 1, rfl, by rw [HSN.out, if_pos HIA.out], hjm, K8.out⟩
                              case measure => simp [intOf]; omega
                            · have ht6 : ((t0 : Int) == 255) = false := by simp; omega
                              by_cases hkt : k < t0
                              · have hkt1 : (k : Int) < (t0 : Int) := by omega
                                have HIA := Lib.hid (And.intro hia (Or.inr (a := t0 = 255) hkt))
                                clear hia ht5
                                go_wp2_with fail
                                refine HAT.out.mono ?_
                                rintro e w8 ⟨rfl, hb⟩
                                have K8 := Lib.hid (next K9.out hb)
                                clear hb hc0 hc1 hfc
                                go_wp2_with fail
                                go_roundw
                                case rel => exact ⟨j + 1, rfl, by rw [HSN.out, if_pos HIA.out], hjm, K8.out⟩
                                case measure => simp [intOf]; omega
                              · have hkt1 : ¬ (k : Int) < (t0 : Int) := by omega
                                have HIA := Lib.hid (show ¬ (i4 = a ∧ (t0 = 255 ∨ k < t0)) from fun h => h.2.elim ht5 hkt)
                                clear hia ht5
                                go_wp2_with fail
                                go_roundw
                                case rel => exact ⟨j + 1, rfl, by rw [HSN.out, if_neg HIA.out], hjm, K9.out⟩
                                case measure => simp [intOf]; omega
                          · have hia1 : ((i4 : Int) == (a : Int)) = false := by simp; omega
                            have HIA := Lib.hid (show ¬ (i4 = a ∧ (t0 = 255 ∨ k < t0)) from fun h => hia h.1)
                            clear hia
                            go_wp2_with fail
                            go_roundw
                            case rel => exact ⟨j + 1, rfl, by rw [HSN.out, if_neg HIA.out], hjm, K9.out⟩
                            case measure => simp [intOf]; omega
                        · have hex : wF one l r a k = v := by rw [← hv]; exact (wF_past one l r j a k (by rw [H1.out.1]; omega)).symm
                          have h1 : (j : Int) < (m : Int) := by omega
                          have h2 : ¬ (j : Int) < (n1 : Int) := by omega
                          have hbk : w9.cell? ⟨g, k, none⟩ = some (.int .u8 (v.toNat : Int)) := by
                            have hr := K5.out.1.keep K9.out
                            obtain ⟨g', e, _, _, hc, _⟩ := hr.at_ (k := k) (by rw [List.length_map, K5.out.2.1]; exact hk2)
                            injection e with e; injection e with e; subst e
                            rw [hc]
                            have e2 := HN.out.2.2 a k
                            unfold atB at e2
                            rw [List.getElem?_eq_getElem (by rw [K5.out.2.1]; exact hk2), Option.getD_some] at e2
                            rw [List.getElem_map]
                            unfold u8v
                            rw [e2, hex]
                          have HHH := Lib.hid hex
                          clear hex hv
                          go_wp2_with fail
                          go_roundw
                          case rel => exact ⟨k + 1, rfl, hk2, K9.out⟩
                          case measure => simp [intOf]; omega
                      · obtain rfl : m = j := by omega
                        have hex : wF one l r a k = v := by rw [← hv, ← HR.out.1, List.take_length]
                        have hbk : w9.cell? ⟨g, k, none⟩ = some (.int .u8 (v.toNat : Int)) := by
                          have hr := K5.out.1.keep K9.out
                          obtain ⟨g', e, _, _, hc, _⟩ := hr.at_ (k := k) (by rw [List.length_map, K5.out.2.1]; exact hk2)
                          injection e with e; injection e with e; subst e
                          rw [hc]
                          have e2 := HN.out.2.2 a k
                          unfold atB at e2
                          rw [List.getElem?_eq_getElem (by rw [K5.out.2.1]; exact hk2), Option.getD_some] at e2
                          rw [List.getElem_map]
                          unfold u8v
                          rw [e2, hex]
                        have HHH := Lib.hid hex
                        clear hex hv
                        go_wp2_with fail
                        go_roundw
                        case rel => exact ⟨k + 1, rfl, hk2, K9.out⟩
                        case measure => simp [intOf]; omega
              · obtain rfl : k = 256 := by omega
                go_wp2_with fail
                go_roundw
                case rel => exact ⟨a + 1, rfl, ha4, K5.out.2.2.keep K6.out⟩
                case measure => simp [intOf]; omega
          · obtain rfl : a = 4 := by omega
            have HO := Lib.hid (dopen K4.out (i := 0) rfl)
            have HP := Lib.hid (doff K4.out (i := 0) rfl)
            rw [HN.out.2.1] at HO
            rw [HN.out.1.2.1] at HP
            go_wp2_with fail
            refine HO.out.mono ?_
            rintro e w' ⟨rfl, rfl⟩
            go_wp2_with fail
            refine HP.out.mono ?_
            rintro e w' ⟨rfl, rfl⟩
            go_wp2_with fail
            refine (works_any w4).mono ?_
            rintro e w9 ⟨rfl, hb⟩
            have H9 := Lib.hid (next K4.out.below hb)
            clear hb
            go_wp2_with fail
            go_ret
            exact ⟨rfl, H9.out⟩
      · have g1 : (60 : Int) < (n1 : Int) := by omega
        clear h60
        go_wp2_with fail
        refine (works_any w).mono ?_
        rintro e w9 ⟨rfl, hb⟩
        have H9 := Lib.hid hb
        clear hb
        go_wp2_with fail
        go_ret
        exact ⟨rfl, H9.out⟩
end Go.Proofs.Ytjpelifafmkdpaa.DkW
