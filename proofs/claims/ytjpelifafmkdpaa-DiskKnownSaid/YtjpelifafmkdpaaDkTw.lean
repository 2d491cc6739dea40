/- The law DiskTwins: its walk. -/
import Derived.Test.YtjpelifafmkdpaaDkWr
namespace Go.Proofs.Ytjpelifafmkdpaa.DkW
open Go.RowKit Go.Shelf Mem Rng
set_option linter.unusedVariables false

theorem on4_on {s : DS} (h : s.n = 4) (f : List UInt8) (ho : s.off = true) : On4 (s.on f) := by
  unfold DS.on
  rw [if_pos ho]
  exact ⟨h, rfl, rfl⟩
theorem wr4 (l r : List Open.OneP) : On4 (wrOf l r) := (sync4 l).puts r
/-- Written, and a disk more. -/
theorem dwritten {w0 w : World} {R : List (Nat × DS)} {X : Nat → Prop} (h : DSt w0 R X w) (A B : Option Addr) (l r : List Open.OneP) (n m c d : Nat) (hn : l.length = n) (hm : r.length = m) (hl : Small l) (hr : Small r) (hA : Cells w w.heap.size A (l.flatMap Open.OneP.cells)) (hB : Cells w w.heap.size B (r.flatMap Open.OneP.cells)) (gl : ∀ x ∈ l, x.good w) (gr : ∀ x ∈ r, x.good w) :
    Calls Try.prog 11 #[.slice A n c, .slice B m d] w fun e w' => ∃ p, e = .returned (.tuple #[.pointer (some ⟨p, 0, none⟩), .bool true]) ∧ DSt w0 (R ++ [(p, wrOf l r)]) X w' := by
  subst hn; subst hm
  refine (written_any w A B l r c d hl hr hA hB gl gr).mono fun e w' ⟨p, he, Fs, h1, h2, h3, h4, h5⟩ => ⟨p, he, h.add (F' := Fs 0) (h1 0 p _ rfl) (fun k hk => (h3 0 k hk).1) h5⟩
theorem good_keep {w w' : World} {l : List Open.OneP} (hb : Below w.heap.size w w') (h : ∀ x ∈ l, x.good w) : ∀ x ∈ l, x.good w' := fun x hx => ⟨((h x hx).1.below hb).up hb.size, (h x hx).2⟩
theorem cells_keep {w w' : World} {A : Option Addr} {xs : List Value} (hb : Below w.heap.size w w') (h : Cells w w.heap.size A xs) : Cells w' w'.heap.size A xs := (h.below hb).up hb.size
set_option maxRecDepth 100000 in
set_option maxHeartbeats 8000000 in
theorem twins_any (w : World) (A : Option Addr) (l : List Open.OneP) (c : Nat) (hcl : l.length ≤ c) (hmx : c ≤ maxLen) (hF : Cells w w.heap.size A (l.flatMap Open.OneP.cells)) (hg : ∀ x ∈ l, x.good w)
    (B : Option Addr) (r : List Open.OneP) (d : Nat) (hdl : r.length ≤ d) (hmd : d ≤ maxLen) (hG : Cells w w.heap.size B (r.flatMap Open.OneP.cells)) (hgr : ∀ x ∈ r, x.good w)
    (C : Option Addr) (one : List UInt8) (c1 : Nat) (h1l : one.length ≤ c1) (h1m : c1 ≤ maxLen) (h1 : Bytes w w.heap.size C one)
    (D : Option Addr) (two : List UInt8) (c2 : Nat) (h2l : two.length ≤ c2) (h2m : c2 ≤ maxLen) (h2 : Bytes w w.heap.size D two) :
    Calls Try.prog 4 #[.slice A l.length c, .slice B r.length d, .slice C one.length c1, .slice D two.length c2] w fun e w' => e = .returned (.bool true) ∧ Below w.heap.size w w' := by
  have HSl := Lib.hid (small_any w A l c hF (by unfold maxLen at hmx; omega))
  have HSr := Lib.hid (small_any w B r d hG (by unfold maxLen at hmd; omega))
  obtain ⟨n, hn⟩ : ∃ n, l.length = n := ⟨_, rfl⟩
  obtain ⟨m, hm⟩ : ∃ m, r.length = m := ⟨_, rfl⟩
  obtain ⟨n1, hn1⟩ : ∃ n1, one.length = n1 := ⟨_, rfl⟩
  obtain ⟨n2, hn2⟩ : ∃ n2, two.length = n2 := ⟨_, rfl⟩
  rw [hn] at HSl
  rw [hm] at HSr
  rw [hn, hm, hn1, hn2]
  have HL := Lib.hid (And.intro hn (And.intro hF hg))
  have HR := Lib.hid (And.intro hm (And.intro hG hgr))
  have H1 := Lib.hid (And.intro hn1 h1)
  have H2 := Lib.hid (And.intro hn2 h2)
  clear hn hm hn1 hn2 hF hG hg hgr h1 h2 hcl hmx hdl hmd h1l h1m h2l h2m
  go_enter Try.func4, Try.ntmps4
  go_wp2_with fail
  refine HSl.out.mono ?_
  rintro e w' ⟨⟨b, rfl, hs⟩, rfl⟩
  cases b with
  | false =>
    clear hs
    go_wp2_with fail
    refine (works_any w).mono ?_
    rintro e w9 ⟨rfl, hb⟩
    have H9 := Lib.hid hb
    clear hb
    go_wp2_with fail
    go_ret
    exact ⟨rfl, H9.out⟩
  | true =>
    have HS1 := Lib.hid (hs rfl)
    clear hs
    go_wp2_with fail
    refine HSr.out.mono ?_
    rintro e w' ⟨⟨b, rfl, hs⟩, rfl⟩
    cases b with
    | false =>
      clear hs
      go_wp2_with fail
      refine (works_any w).mono ?_
      rintro e w9 ⟨rfl, hb⟩
      have H9 := Lib.hid hb
      clear hb
      go_wp2_with fail
      go_ret
      exact ⟨rfl, H9.out⟩
    | true =>
      have HS2 := Lib.hid (hs rfl)
      clear hs
      by_cases h60 : n1 ≤ 60 ∧ n2 ≤ 60
      · obtain ⟨h61, h62⟩ := h60
        have g1 : ¬ (60 : Int) < (n1 : Int) := by omega
        have g2 : ¬ (60 : Int) < (n2 : Int) := by omega
        go_wp2_with fail
        refine (dwritten (DSt.start w) A B l r n m c d HL.out.1 HR.out.1 HS1.out HS2.out HL.out.2.1 HR.out.2.1 HL.out.2.2 HR.out.2.2).mono ?_
        rintro e w1 ⟨p1, rfl, h⟩
        have K1 := Lib.hid (show DSt w [(p1, wrOf l r)] _ w1 from h)
        clear h
        go_wp2_with fail
        refine (dwritten K1.out A B l r n m c d HL.out.1 HR.out.1 HS1.out HS2.out (cells_keep K1.out.below HL.out.2.1) (cells_keep K1.out.below HR.out.2.1) (good_keep K1.out.below HL.out.2.2) (good_keep K1.out.below HR.out.2.2)).mono ?_
        rintro e w2 ⟨p2, rfl, h⟩
        have K2 := Lib.hid (show DSt w [(p1, wrOf l r), (p2, wrOf l r)] _ w2 from h)
        clear h
        go_wp2_with fail
        refine (dcrash K2.out (i := 0) rfl).mono ?_
        rintro e w3 ⟨rfl, h, hf⟩
        have K3 := Lib.hid (show DSt w [(p1, (wrOf l r).crash), (p2, wrOf l r)] _ w3 from h)
        clear h hf
        go_wp2_with fail
        refine (dcopy K3.out (i := 0) rfl).mono ?_
        rintro e w4 ⟨p3, rfl, h, hf⟩
        have K4 := Lib.hid (show DSt w [(p1, (wrOf l r).crash), (p2, wrOf l r), (p3, (wrOf l r).crash)] _ w4 from h)
        clear h hf
        go_wp2_with fail
        refine (don K4.out (i := 0) rfl C one n1 c1 H1.out.1 ((H1.out.2.below K4.out.below).up K4.out.below.size) (by rw [H1.out.1]; omega)).mono ?_
        rintro e w5 ⟨rfl, h, hf⟩
        have K5 := Lib.hid (show DSt w [(p1, (wrOf l r).crash.on one), (p2, wrOf l r), (p3, (wrOf l r).crash)] _ w5 from h)
        clear h hf
        go_wp2_with fail
        refine (don K5.out (i := 2) rfl D two n2 c2 H2.out.1 ((H2.out.2.below K5.out.below).up K5.out.below.size) (by rw [H2.out.1]; omega)).mono ?_
        rintro e w6 ⟨rfl, h, hf⟩
        have K6 := Lib.hid (show DSt w [(p1, (wrOf l r).crash.on one), (p2, wrOf l r), (p3, (wrOf l r).crash.on two)] _ w6 from h)
        clear h hf
        go_wp2_with fail
        refine (dcrash K6.out (i := 1) rfl).mono ?_
        rintro e w7 ⟨rfl, h, hf⟩
        have K7 := Lib.hid (show DSt w [(p1, (wrOf l r).crash.on one), (p2, (wrOf l r).crash), (p3, (wrOf l r).crash.on two)] _ w7 from h)
        clear h hf
        go_wp2_with fail
        refine (don K7.out (i := 1) rfl D two n2 c2 H2.out.1 ((H2.out.2.below K7.out.below).up K7.out.below.size) (by rw [H2.out.1]; omega)).mono ?_
        rintro e w8 ⟨rfl, h, hf⟩
        have K8 := Lib.hid (show DSt w [(p1, (wrOf l r).crash.on one), (p2, (wrOf l r).crash.on two), (p3, (wrOf l r).crash.on two)] _ w8 from h)
        clear h hf
        go_wp2_with fail
        refine (dwritten K8.out A B l r n m c d HL.out.1 HR.out.1 HS1.out HS2.out (cells_keep K8.out.below HL.out.2.1) (cells_keep K8.out.below HR.out.2.1) (good_keep K8.out.below HL.out.2.2) (good_keep K8.out.below HR.out.2.2)).mono ?_
        rintro e w9 ⟨p4, rfl, h⟩
        have K9 := Lib.hid (show DSt w [(p1, (wrOf l r).crash.on one), (p2, (wrOf l r).crash.on two), (p3, (wrOf l r).crash.on two), (p4, wrOf l r)] _ w9 from h)
        clear h
        go_wp2_with fail
        refine (dcrash K9.out (i := 3) rfl).mono ?_
        rintro e w10 ⟨rfl, h, hf⟩
        have K10 := Lib.hid (show DSt w [(p1, (wrOf l r).crash.on one), (p2, (wrOf l r).crash.on two), (p3, (wrOf l r).crash.on two), (p4, (wrOf l r).crash)] _ w10 from h)
        clear h hf
        go_wp2_with fail
        refine (don K10.out (i := 3) rfl C one n1 c1 H1.out.1 ((H1.out.2.below K10.out.below).up K10.out.below.size) (by rw [H1.out.1]; omega)).mono ?_
        rintro e w11 ⟨rfl, h, hf⟩
        have K11 := Lib.hid (show DSt w [(p1, (wrOf l r).crash.on one), (p2, (wrOf l r).crash.on two), (p3, (wrOf l r).crash.on two), (p4, (wrOf l r).crash.on one)] _ w11 from h)
        have HM := Lib.hid (show ∀ f (a : Nat), a < 4 → ((wrOf l r).crash.on f).may a 0 = 0 from fun f a ha => (on4_on (s := (wrOf l r).crash) (wr4 l r).1 f rfl).may a ha 0 (by decide))
        clear h hf
        go_wp2_with fail
        refine (same_any K11.out (i := 0) (j := 3) rfl rfl (HM.out one) (HM.out one) (fun _ _ => rfl)).mono ?_
        rintro e w12 ⟨rfl, hb⟩
        have K12 := Lib.hid (K11.out.keep hb)
        clear hb
        go_wp2_with fail
        refine (same_any K12.out (i := 2) (j := 1) rfl rfl (HM.out two) (HM.out two) (fun _ _ => rfl)).mono ?_
        rintro e w13 ⟨rfl, hb⟩
        have K13 := Lib.hid (K12.out.keep hb)
        clear hb
        go_wp2_with fail
        refine (works_any w13).mono ?_
        rintro e w14 ⟨rfl, hb⟩
        have K14 := Lib.hid (next K13.out.below hb)
        clear hb
        go_wp2_with fail
        go_ret
        exact ⟨rfl, K14.out⟩
      · by_cases h61 : n1 ≤ 60
        · have g1 : ¬ (60 : Int) < (n1 : Int) := by omega
          have g2 : (60 : Int) < (n2 : Int) := by omega
          clear h60
          go_wp2_with fail
          refine (works_any w).mono ?_
          rintro e w9 ⟨rfl, hb⟩
          have H9 := Lib.hid hb
          clear hb
          go_wp2_with fail
          go_ret
          exact ⟨rfl, H9.out⟩
        · have g1 : (60 : Int) < (n1 : Int) := by omega
          clear h60
          go_wp2_with fail
          refine (works_any w).mono ?_
          rintro e w9 ⟨rfl, hb⟩
          have H9 := Lib.hid hb
          clear hb
          go_wp2_with fail
          go_ret
          exact ⟨rfl, H9.out⟩
end Go.Proofs.Ytjpelifafmkdpaa.DkW
