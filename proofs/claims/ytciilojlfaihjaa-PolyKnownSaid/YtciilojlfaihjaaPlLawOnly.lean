/- The law PolyOnly: its walk. -/
import Derived.Test.YtciilojlfaihjaaPlLawSt
namespace Go.Proofs.Ytciilojlfaihjaa.PlW
open Go.RowKit Mem Gf FdW Pl Rng
set_option linter.unusedVariables false
theorem own_ne_fld {w : World} {base p c : Nat} {A : Option Addr} {xs : List Value} (h : Mem.Own w base 5 A c xs) (hp : Fld w p) : ∀ g, A = some ⟨g, 0, none⟩ → g ≠ p := fun g hg e => by
  subst e
  rcases hp with ⟨cs, hb, _⟩ | ⟨cs, hb, _⟩ <;> exact hb.ne_own h (by decide) g hg rfl
/-- An append to a row of the law's own leaves all else. -/
theorem ps_app {w0 w w' : World} {p c : Nat} {A : Option Addr} {xs : List Value} {R : List Rw} {o : Obj} (h : PS w0 p R w) (hb : Below w0.heap.size (w.alloc o) w') (hg : (w.alloc o).grownBy w' (A.map (·.block))) (ho : Mem.Own (w.alloc o) w0.heap.size 5 A c xs)
    (hR : ∀ r ∈ R, Bytes w0 w0.heap.size r.A r.l) : PS w0 p R w' := by
  have h1 := h.keep (nextA (Mem.start w) o)
  refine ⟨⟨h.1.1, ?_, h1.1.2.2.trans hb⟩, fun r hr => ⟨⟨((hR r hr).below (h1.1.2.2.trans hb)).up (Nat.le_trans h1.1.2.2.size hb.size), (h1.2 r hr).1.2⟩, (h.2 r hr).2⟩⟩
  refine h1.1.2.1.fr (Fr.grown (S := fun k => A.map (·.block) = some k) hg fun k hk => hk) (fun e => ?_)
  cases A with
  | none => cases e
  | some a =>
    rcases ho.form with ⟨h2, _⟩ | ⟨g, h2, _⟩
    · cases h2
    · injection h2 with h2
      subst h2
      injection e with e
      exact own_ne_fld ho h1.1.2.1 g rfl e
theorem only_own {a b P : List UInt8} (hn : b.Nodup) (hl : len a ≤ b.length) (h : ThrOk b (b.map (ev a)) P) (ht : trim P = P) : P = trim a := by
  have := thr_only (ys := b.map (ev a)) hn (by simp) h (p' := a) ⟨hl, fun i hi k => by simp⟩
  rw [← ht, trim_congr this]
theorem only_val {b c Q : List UInt8} (hl : b.length = c.length) (h : ThrOk b c Q) {j : Nat} (hj : j < b.length) : ev Q (cf b j) = cf c j := by
  rw [cf_lt hj, cf_lt (show j < c.length by omega)]; exact h.2 j hj (by omega)
theorem only_same {a b c P Q : List UInt8} (hn : b.Nodup) (hl : b.length = c.length) (hP : ThrOk b (b.map (ev a)) P) (hp : trim P = P) (hQ : ThrOk b c Q) (hq : trim Q = Q) : sameB P Q = sameB (b.map (ev a)) c := by
  by_cases h : b.map (ev a) = c
  · rw [sameB_yes h]
    refine sameB_yes ?_
    rw [h] at hP
    rw [← hp, ← hq, trim_congr (thr_only hn hl hP hQ)]
  · rw [sameB_no h]
    refine sameB_no fun e => h ?_
    subst e
    apply List.ext_getElem
    · simpa using hl
    · intro i h1 h2
      have h3 : i < b.length := by simpa using h1
      rw [← hP.2 i h3 h1, ← hQ.2 i h3 h2]
set_option maxRecDepth 100000 in
set_option maxHeartbeats 4000000 in
theorem polyonly_big0 (w : World) (A : Option Addr) (a : List UInt8) (ca : Nat) (hca : a.length ≤ ca) (hA : Bytes w w.heap.size A a) (B : Option Addr) (b : List UInt8) (cb : Nat) (hcb : b.length ≤ cb) (hB : Bytes w w.heap.size B b) (C : Option Addr) (c : List UInt8) (cc : Nat) (hcc : c.length ≤ cc) (hC : Bytes w w.heap.size C c) (h : 16 < a.length) :
    Calls Try.prog 7 #[.slice A a.length ca, .slice B b.length cb, .slice C c.length cc] w fun e w' => e = .returned (.bool true) ∧ Below w.heap.size w w' := by
  have h0 : (16 : Int) < (a.length : Int) := by omega
  clear h
  go_enter Try.func7, Try.ntmps7
  go_wp2_with fail
  refine (works_any _).mono ?_
  rintro e w1 ⟨rfl, hb⟩
  have H1 := Lib.hid hb
  clear hb
  go_wp2_with fail
  go_ret
  exact ⟨rfl, H1.out⟩
set_option maxRecDepth 100000 in
set_option maxHeartbeats 4000000 in
theorem polyonly_big1 (w : World) (A : Option Addr) (a : List UInt8) (ca : Nat) (hca : a.length ≤ ca) (hA : Bytes w w.heap.size A a) (B : Option Addr) (b : List UInt8) (cb : Nat) (hcb : b.length ≤ cb) (hB : Bytes w w.heap.size B b) (C : Option Addr) (c : List UInt8) (cc : Nat) (hcc : c.length ≤ cc) (hC : Bytes w w.heap.size C c) (h : a.length ≤ 16 ∧ 16 < b.length) :
    Calls Try.prog 7 #[.slice A a.length ca, .slice B b.length cb, .slice C c.length cc] w fun e w' => e = .returned (.bool true) ∧ Below w.heap.size w w' := by
  have h0 : ¬ (16 : Int) < (a.length : Int) := by omega
  have h1 : (16 : Int) < (b.length : Int) := by omega
  clear h
  go_enter Try.func7, Try.ntmps7
  go_wp2_with fail
  refine (works_any _).mono ?_
  rintro e w1 ⟨rfl, hb⟩
  have H1 := Lib.hid hb
  clear hb
  go_wp2_with fail
  go_ret
  exact ⟨rfl, H1.out⟩
set_option maxRecDepth 100000 in
set_option maxHeartbeats 4000000 in
theorem polyonly_big2 (w : World) (A : Option Addr) (a : List UInt8) (ca : Nat) (hca : a.length ≤ ca) (hA : Bytes w w.heap.size A a) (B : Option Addr) (b : List UInt8) (cb : Nat) (hcb : b.length ≤ cb) (hB : Bytes w w.heap.size B b) (C : Option Addr) (c : List UInt8) (cc : Nat) (hcc : c.length ≤ cc) (hC : Bytes w w.heap.size C c) (h : a.length ≤ 16 ∧ b.length ≤ 16 ∧ 16 < c.length) :
    Calls Try.prog 7 #[.slice A a.length ca, .slice B b.length cb, .slice C c.length cc] w fun e w' => e = .returned (.bool true) ∧ Below w.heap.size w w' := by
  have h0 : ¬ (16 : Int) < (a.length : Int) := by omega
  have h1 : ¬ (16 : Int) < (b.length : Int) := by omega
  have h2 : (16 : Int) < (c.length : Int) := by omega
  clear h
  go_enter Try.func7, Try.ntmps7
  go_wp2_with fail
  refine (works_any _).mono ?_
  rintro e w1 ⟨rfl, hb⟩
  have H1 := Lib.hid hb
  clear hb
  go_wp2_with fail
  go_ret
  exact ⟨rfl, H1.out⟩
set_option maxRecDepth 100000 in
set_option maxHeartbeats 4000000 in
theorem only_0 (w : World) (A : Option Addr) (a : List UInt8) (ca : Nat) (hca : a.length ≤ ca) (hA : Bytes w w.heap.size A a) (B : Option Addr) (b : List UInt8) (cb : Nat) (hcb : b.length ≤ cb) (hB : Bytes w w.heap.size B b) (C : Option Addr) (c : List UInt8) (cc : Nat) (hcc : c.length ≤ cc) (hC : Bytes w w.heap.size C c) (h : a.length ≤ 16 ∧ b.length ≤ 16 ∧ c.length ≤ 16) (hg : ¬ b.Nodup) :
    Calls Try.prog 7 #[.slice A a.length ca, .slice B b.length cb, .slice C c.length cc] w fun e w' => e = .returned (.bool true) ∧ Below w.heap.size w w' := by
  have hs0 : ¬ (16 : Int) < (a.length : Int) := by omega
  have hs1 : ¬ (16 : Int) < (b.length : Int) := by omega
  have hs2 : ¬ (16 : Int) < (c.length : Int) := by omega
  have H0 := Lib.hid ((((PB.start w).arg 16 hC hcc h.2.2).arg 16 hB hcb h.2.1).arg 16 hA hca h.1)
  obtain ⟨i0, hi0, hz0, hz1, hz2⟩ := info_parts u8info
  have HXL := Lib.hid h
  have HG1 := Lib.hid (show ¬ Good b (b.map (ev a)) from fun hh => hg hh.2)
  have HG2 := Lib.hid (show ¬ Good b c from fun hh => hg hh.2)
  clear hg
  clear h
  go_enter Try.func7, Try.ntmps7
  go_wp2_with fail
  refine (newP H0.out).mono ?_
  rintro e w1 ⟨rfl, h⟩
  have H1 := Lib.hid h
  clear h
  go_wp2_with fail
  go_loopw [8, 9] (fun s i wr => ∃ (j : Nat) (O : Option Addr) (co : Nat), i = .int .i64 (j : Int) ∧ j ≤ b.length ∧ s = .slice O j co ∧ PS w w.heap.size [⟨A, a, ca, 16⟩, ⟨B, b, cb, 16⟩, ⟨C, c, cc, 16⟩] wr ∧ Mem.Own wr w.heap.size 5 O co (((b.take j).map (ev a)).map u8v)) (fun _ i _ => b.length - (intOf i).toNat)
  case atStart => exact ⟨0, none, 0, rfl, Nat.zero_le _, rfl, H1.out, Own.nil⟩
  case round =>
    obtain ⟨j, O, co, rfl, hj, rfl, hps, ho⟩ := hrel
    have HPS := Lib.hid (And.intro hps ho)
    clear hps ho
    by_cases hjb : j < b.length
    · obtain ⟨gb, ob, rfl, _, hcb2⟩ := (HPS.out.1.2 ⟨B, b, cb, 16⟩ (by simp)).1.1.at_ (k := j) hjb
      dsimp only at hcb2
      rw [← cf_lt hjb] at hcb2
      have HOS := Lib.hid (show ((b.take (j + 1)).map (ev a)).map u8v = ((b.take j).map (ev a)).map u8v ++ [u8v (ev a (cf b j))] from by rw [List.take_succ_eq_append_getElem hjb, cf_lt hjb, List.map_append, List.map_append]; rfl)
      have hji : (j : Int) < (b.length : Int) := by omega
      have hj16 : j ≤ 16 := by have := HXL.out.2.1; omega
      have HJ := Lib.hid hjb
      have HJL := Lib.hid (show j = (((b.take j).map (ev a)).map u8v).length from by simp; omega)
      clear hjb hj
      generalize cf b j = z at *
      go_wp2_with fail
      refine (at_any wr _ HPS.out.1.1.2.1 A a _ ca rfl (by have := HXL.out.1; omega) (HPS.out.1.2 ⟨A, a, ca, 16⟩ (by simp)).1 _ z rfl).mono ?_
      rintro e w5 ⟨rfl, hF5, hf5⟩
      have hf5b : Fr (fun k => k = w.heap.size) wr w5 := hf5.mono fun k _ hk => by injection hk with hk; exact hk.symm
      have HP5 := Lib.hid (PS.fr HPS.out.1 (hF5 _ rfl) hf5b)
      have HO5 := Lib.hid (HPS.out.2.fr hf5b (fun gg hgg e => own_ne_fld HPS.out.2 HPS.out.1.1.2.1 gg hgg e))
      clear hF5 hf5 hf5b
      generalize ev a z = y at *
      have hbs := build1 w5 (y.toNat : Int)
      go_wp2_with ((with_reducible show wpList _ _ _ ((⟨some 45, _, _, _, _, _⟩ : Oper) :: _) _ _); refine wpList_app _ rfl _ _ _ rfl w.heap.size 5 i0 _ 1 Try.underlying22 hi0 hz0 hz1 hz2 rfl O co j _ rfl HJL.out (HO5.out.alloc _) (w5.heap.size + 1) (some ⟨w5.heap.size, 0, none⟩) 1 1 [.int .u8 (y.toNat : Int)] rfl rfl (cells_one w5 _ _ _ (by omega)) (fun u hu => by simp at hu; subst hu; rfl) (by rw [← HJL.out]; simp [maxLen]; omega) (by rw [← HJL.out]; simp; omega) (by have := HP5.out.1.2.2.size; simp; omega) (j + 1) rfl ?_; intro A6 c6 w6 ho6 hb6 hg6 hA6)
      have HO6 := Lib.hid ho6
      have HP6 := Lib.hid (ps_app HP5.out hb6 hg6 (HO5.out.alloc _) (fun r hr => by rcases hr with _ | ⟨_, _ | ⟨_, _ | ⟨_, hr⟩⟩⟩ <;> first | exact hA | exact hB | exact hC | cases hr))
      clear ho6 hb6 hg6 hA6 hbs
      go_wp2_with fail
      go_roundw
      case rel => exact ⟨j + 1, A6, c6, rfl, HJ.out, rfl, HP6.out, by rw [HOS.out]; exact HO6.out⟩
      case measure => simp [intOf]; have := HJ.out; omega
    · obtain rfl : j = b.length := by omega
      have HOW := Lib.hid (PS.row HPS.out.1 (A := O) (l := b.map (ev a)) (c := co) 16 (by have := HPS.out.2; rwa [List.take_length] at this) (by rw [List.length_map]; exact HXL.out.2.1))
      clear hjb hj
      go_wp2_with fail
      refine (thr0R HOW.out (a := b) (na := 16) (by simp) _ (by first | rfl | simp) (b := b.map (ev a)) (nb := 16) (by simp) _ (by first | rfl | simp) (by decide) HG1.out).mono ?_
      rintro e w2 ⟨rfl, h⟩
      have H2 := Lib.hid h
      clear h
      go_wp2_with fail
      refine (thr0R H2.out (a := b) (na := 16) (by simp) _ (by first | rfl | simp) (b := c) (nb := 16) (by simp) _ (by first | rfl | simp) (by decide) HG2.out).mono ?_
      rintro e w3 ⟨rfl, h⟩
      have H3 := Lib.hid h
      clear h
      go_wp2_with fail
      refine (works_any _).mono ?_
      rintro e w4 ⟨rfl, hb⟩
      have H4 := Lib.hid (PS.keep H3.out hb)
      clear hb
      go_wp2_with fail
      go_ret
      exact ⟨rfl, PS.below H4.out⟩
set_option maxRecDepth 100000 in
set_option maxHeartbeats 4000000 in
theorem only_10 (w : World) (A : Option Addr) (a : List UInt8) (ca : Nat) (hca : a.length ≤ ca) (hA : Bytes w w.heap.size A a) (B : Option Addr) (b : List UInt8) (cb : Nat) (hcb : b.length ≤ cb) (hB : Bytes w w.heap.size B b) (C : Option Addr) (c : List UInt8) (cc : Nat) (hcc : c.length ≤ cc) (hC : Bytes w w.heap.size C c) (h : a.length ≤ 16 ∧ b.length ≤ 16 ∧ c.length ≤ 16) (hn : b.Nodup) (hg : ¬ Good b c) (hsm : ¬ len a ≤ b.length) :
    Calls Try.prog 7 #[.slice A a.length ca, .slice B b.length cb, .slice C c.length cc] w fun e w' => e = .returned (.bool true) ∧ Below w.heap.size w w' := by
  have hs0 : ¬ (16 : Int) < (a.length : Int) := by omega
  have hs1 : ¬ (16 : Int) < (b.length : Int) := by omega
  have hs2 : ¬ (16 : Int) < (c.length : Int) := by omega
  have H0 := Lib.hid ((((PB.start w).arg 16 hC hcc h.2.2).arg 16 hB hcb h.2.1).arg 16 hA hca h.1)
  obtain ⟨i0, hi0, hz0, hz1, hz2⟩ := info_parts u8info
  have HXL := Lib.hid h
  have HG1 := Lib.hid (show Good b (b.map (ev a)) from ⟨by simp, hn⟩)
  have HG2 := Lib.hid hg
  clear hg hn
  have hdg : ¬ (len a : Int) - 1 < (b.length : Int) := by omega
  clear hsm
  clear h
  go_enter Try.func7, Try.ntmps7
  go_wp2_with fail
  refine (newP H0.out).mono ?_
  rintro e w1 ⟨rfl, h⟩
  have H1 := Lib.hid h
  clear h
  go_wp2_with fail
  go_loopw [8, 9] (fun s i wr => ∃ (j : Nat) (O : Option Addr) (co : Nat), i = .int .i64 (j : Int) ∧ j ≤ b.length ∧ s = .slice O j co ∧ PS w w.heap.size [⟨A, a, ca, 16⟩, ⟨B, b, cb, 16⟩, ⟨C, c, cc, 16⟩] wr ∧ Mem.Own wr w.heap.size 5 O co (((b.take j).map (ev a)).map u8v)) (fun _ i _ => b.length - (intOf i).toNat)
  case atStart => exact ⟨0, none, 0, rfl, Nat.zero_le _, rfl, H1.out, Own.nil⟩
  case round =>
    obtain ⟨j, O, co, rfl, hj, rfl, hps, ho⟩ := hrel
    have HPS := Lib.hid (And.intro hps ho)
    clear hps ho
    by_cases hjb : j < b.length
    · obtain ⟨gb, ob, rfl, _, hcb2⟩ := (HPS.out.1.2 ⟨B, b, cb, 16⟩ (by simp)).1.1.at_ (k := j) hjb
      dsimp only at hcb2
      rw [← cf_lt hjb] at hcb2
      have HOS := Lib.hid (show ((b.take (j + 1)).map (ev a)).map u8v = ((b.take j).map (ev a)).map u8v ++ [u8v (ev a (cf b j))] from by rw [List.take_succ_eq_append_getElem hjb, cf_lt hjb, List.map_append, List.map_append]; rfl)
      have hji : (j : Int) < (b.length : Int) := by omega
      have hj16 : j ≤ 16 := by have := HXL.out.2.1; omega
      have HJ := Lib.hid hjb
      have HJL := Lib.hid (show j = (((b.take j).map (ev a)).map u8v).length from by simp; omega)
      clear hjb hj
      generalize cf b j = z at *
      go_wp2_with fail
      refine (at_any wr _ HPS.out.1.1.2.1 A a _ ca rfl (by have := HXL.out.1; omega) (HPS.out.1.2 ⟨A, a, ca, 16⟩ (by simp)).1 _ z rfl).mono ?_
      rintro e w5 ⟨rfl, hF5, hf5⟩
      have hf5b : Fr (fun k => k = w.heap.size) wr w5 := hf5.mono fun k _ hk => by injection hk with hk; exact hk.symm
      have HP5 := Lib.hid (PS.fr HPS.out.1 (hF5 _ rfl) hf5b)
      have HO5 := Lib.hid (HPS.out.2.fr hf5b (fun gg hgg e => own_ne_fld HPS.out.2 HPS.out.1.1.2.1 gg hgg e))
      clear hF5 hf5 hf5b
      generalize ev a z = y at *
      have hbs := build1 w5 (y.toNat : Int)
      go_wp2_with ((with_reducible show wpList _ _ _ ((⟨some 45, _, _, _, _, _⟩ : Oper) :: _) _ _); refine wpList_app _ rfl _ _ _ rfl w.heap.size 5 i0 _ 1 Try.underlying22 hi0 hz0 hz1 hz2 rfl O co j _ rfl HJL.out (HO5.out.alloc _) (w5.heap.size + 1) (some ⟨w5.heap.size, 0, none⟩) 1 1 [.int .u8 (y.toNat : Int)] rfl rfl (cells_one w5 _ _ _ (by omega)) (fun u hu => by simp at hu; subst hu; rfl) (by rw [← HJL.out]; simp [maxLen]; omega) (by rw [← HJL.out]; simp; omega) (by have := HP5.out.1.2.2.size; simp; omega) (j + 1) rfl ?_; intro A6 c6 w6 ho6 hb6 hg6 hA6)
      have HO6 := Lib.hid ho6
      have HP6 := Lib.hid (ps_app HP5.out hb6 hg6 (HO5.out.alloc _) (fun r hr => by rcases hr with _ | ⟨_, _ | ⟨_, _ | ⟨_, hr⟩⟩⟩ <;> first | exact hA | exact hB | exact hC | cases hr))
      clear ho6 hb6 hg6 hA6 hbs
      go_wp2_with fail
      go_roundw
      case rel => exact ⟨j + 1, A6, c6, rfl, HJ.out, rfl, HP6.out, by rw [HOS.out]; exact HO6.out⟩
      case measure => simp [intOf]; have := HJ.out; omega
    · obtain rfl : j = b.length := by omega
      have HOW := Lib.hid (PS.row HPS.out.1 (A := O) (l := b.map (ev a)) (c := co) 16 (by have := HPS.out.2; rwa [List.take_length] at this) (by rw [List.length_map]; exact HXL.out.2.1))
      clear hjb hj
      go_wp2_with fail
      refine (thrR HOW.out (a := b) (na := 16) (by simp) _ (by first | rfl | simp) (b := b.map (ev a)) (nb := 16) (by simp) _ (by first | rfl | simp) (by decide) HG1.out 16 (by decide)).mono ?_
      rintro e w2 ⟨P2, A2, c2, hd, ht, rfl, h⟩
      have HP := Lib.hid (And.intro hd ht)
      clear hd ht
      have H2 := Lib.hid h
      clear h
      go_wp2_with fail
      refine (degR H2.out (a := a) (na := 16) (by simp) _ rfl (by decide)).mono ?_
      rintro e w3 ⟨rfl, h⟩
      have H3 := Lib.hid h
      clear h
      go_wp2_with fail
      refine (thr0R H3.out (a := b) (na := 16) (by simp) _ (by first | rfl | simp) (b := c) (nb := 16) (by simp) _ (by first | rfl | simp) (by decide) HG2.out).mono ?_
      rintro e w4 ⟨rfl, h⟩
      have H4 := Lib.hid h
      clear h
      go_wp2_with fail
      refine (works_any _).mono ?_
      rintro e w5 ⟨rfl, hb⟩
      have H5 := Lib.hid (PS.keep H4.out hb)
      clear hb
      go_wp2_with fail
      go_ret
      exact ⟨rfl, PS.below H5.out⟩
set_option maxRecDepth 100000 in
set_option maxHeartbeats 4000000 in
theorem only_11 (w : World) (A : Option Addr) (a : List UInt8) (ca : Nat) (hca : a.length ≤ ca) (hA : Bytes w w.heap.size A a) (B : Option Addr) (b : List UInt8) (cb : Nat) (hcb : b.length ≤ cb) (hB : Bytes w w.heap.size B b) (C : Option Addr) (c : List UInt8) (cc : Nat) (hcc : c.length ≤ cc) (hC : Bytes w w.heap.size C c) (h : a.length ≤ 16 ∧ b.length ≤ 16 ∧ c.length ≤ 16) (hn : b.Nodup) (hg : ¬ Good b c) (hsm : len a ≤ b.length) :
    Calls Try.prog 7 #[.slice A a.length ca, .slice B b.length cb, .slice C c.length cc] w fun e w' => e = .returned (.bool true) ∧ Below w.heap.size w w' := by
  have hs0 : ¬ (16 : Int) < (a.length : Int) := by omega
  have hs1 : ¬ (16 : Int) < (b.length : Int) := by omega
  have hs2 : ¬ (16 : Int) < (c.length : Int) := by omega
  have H0 := Lib.hid ((((PB.start w).arg 16 hC hcc h.2.2).arg 16 hB hcb h.2.1).arg 16 hA hca h.1)
  obtain ⟨i0, hi0, hz0, hz1, hz2⟩ := info_parts u8info
  have HXL := Lib.hid h
  have HG1 := Lib.hid (show Good b (b.map (ev a)) from ⟨by simp, hn⟩)
  have HG2 := Lib.hid hg
  clear hg hn
  have HSM := Lib.hid hsm
  have hdg : (len a : Int) - 1 < (b.length : Int) := by omega
  clear hsm
  clear h
  go_enter Try.func7, Try.ntmps7
  go_wp2_with fail
  refine (newP H0.out).mono ?_
  rintro e w1 ⟨rfl, h⟩
  have H1 := Lib.hid h
  clear h
  go_wp2_with fail
  go_loopw [8, 9] (fun s i wr => ∃ (j : Nat) (O : Option Addr) (co : Nat), i = .int .i64 (j : Int) ∧ j ≤ b.length ∧ s = .slice O j co ∧ PS w w.heap.size [⟨A, a, ca, 16⟩, ⟨B, b, cb, 16⟩, ⟨C, c, cc, 16⟩] wr ∧ Mem.Own wr w.heap.size 5 O co (((b.take j).map (ev a)).map u8v)) (fun _ i _ => b.length - (intOf i).toNat)
  case atStart => exact ⟨0, none, 0, rfl, Nat.zero_le _, rfl, H1.out, Own.nil⟩
  case round =>
    obtain ⟨j, O, co, rfl, hj, rfl, hps, ho⟩ := hrel
    have HPS := Lib.hid (And.intro hps ho)
    clear hps ho
    by_cases hjb : j < b.length
    · obtain ⟨gb, ob, rfl, _, hcb2⟩ := (HPS.out.1.2 ⟨B, b, cb, 16⟩ (by simp)).1.1.at_ (k := j) hjb
      dsimp only at hcb2
      rw [← cf_lt hjb] at hcb2
      have HOS := Lib.hid (show ((b.take (j + 1)).map (ev a)).map u8v = ((b.take j).map (ev a)).map u8v ++ [u8v (ev a (cf b j))] from by rw [List.take_succ_eq_append_getElem hjb, cf_lt hjb, List.map_append, List.map_append]; rfl)
      have hji : (j : Int) < (b.length : Int) := by omega
      have hj16 : j ≤ 16 := by have := HXL.out.2.1; omega
      have HJ := Lib.hid hjb
      have HJL := Lib.hid (show j = (((b.take j).map (ev a)).map u8v).length from by simp; omega)
      clear hjb hj
      generalize cf b j = z at *
      go_wp2_with fail
      refine (at_any wr _ HPS.out.1.1.2.1 A a _ ca rfl (by have := HXL.out.1; omega) (HPS.out.1.2 ⟨A, a, ca, 16⟩ (by simp)).1 _ z rfl).mono ?_
      rintro e w5 ⟨rfl, hF5, hf5⟩
      have hf5b : Fr (fun k => k = w.heap.size) wr w5 := hf5.mono fun k _ hk => by injection hk with hk; exact hk.symm
      have HP5 := Lib.hid (PS.fr HPS.out.1 (hF5 _ rfl) hf5b)
      have HO5 := Lib.hid (HPS.out.2.fr hf5b (fun gg hgg e => own_ne_fld HPS.out.2 HPS.out.1.1.2.1 gg hgg e))
      clear hF5 hf5 hf5b
      generalize ev a z = y at *
      have hbs := build1 w5 (y.toNat : Int)
      go_wp2_with ((with_reducible show wpList _ _ _ ((⟨some 45, _, _, _, _, _⟩ : Oper) :: _) _ _); refine wpList_app _ rfl _ _ _ rfl w.heap.size 5 i0 _ 1 Try.underlying22 hi0 hz0 hz1 hz2 rfl O co j _ rfl HJL.out (HO5.out.alloc _) (w5.heap.size + 1) (some ⟨w5.heap.size, 0, none⟩) 1 1 [.int .u8 (y.toNat : Int)] rfl rfl (cells_one w5 _ _ _ (by omega)) (fun u hu => by simp at hu; subst hu; rfl) (by rw [← HJL.out]; simp [maxLen]; omega) (by rw [← HJL.out]; simp; omega) (by have := HP5.out.1.2.2.size; simp; omega) (j + 1) rfl ?_; intro A6 c6 w6 ho6 hb6 hg6 hA6)
      have HO6 := Lib.hid ho6
      have HP6 := Lib.hid (ps_app HP5.out hb6 hg6 (HO5.out.alloc _) (fun r hr => by rcases hr with _ | ⟨_, _ | ⟨_, _ | ⟨_, hr⟩⟩⟩ <;> first | exact hA | exact hB | exact hC | cases hr))
      clear ho6 hb6 hg6 hA6 hbs
      go_wp2_with fail
      go_roundw
      case rel => exact ⟨j + 1, A6, c6, rfl, HJ.out, rfl, HP6.out, by rw [HOS.out]; exact HO6.out⟩
      case measure => simp [intOf]; have := HJ.out; omega
    · obtain rfl : j = b.length := by omega
      have HOW := Lib.hid (PS.row HPS.out.1 (A := O) (l := b.map (ev a)) (c := co) 16 (by have := HPS.out.2; rwa [List.take_length] at this) (by rw [List.length_map]; exact HXL.out.2.1))
      clear hjb hj
      go_wp2_with fail
      refine (thrR HOW.out (a := b) (na := 16) (by simp) _ (by first | rfl | simp) (b := b.map (ev a)) (nb := 16) (by simp) _ (by first | rfl | simp) (by decide) HG1.out 16 (by decide)).mono ?_
      rintro e w2 ⟨P2, A2, c2, hd, ht, rfl, h⟩
      have HP := Lib.hid (And.intro hd ht)
      clear hd ht
      have H2 := Lib.hid h
      clear h
      go_wp2_with fail
      refine (degR H2.out (a := a) (na := 16) (by simp) _ rfl (by decide)).mono ?_
      rintro e w3 ⟨rfl, h⟩
      have H3 := Lib.hid h
      clear h
      go_wp2_with fail
      refine (trimR H3.out (a := a) (na := 16) (by simp) _ rfl (by decide)).mono ?_
      rintro e w4 ⟨A4, c4, rfl, h⟩
      have H4 := Lib.hid h
      clear h
      go_wp2_with fail
      refine (sameR H4.out (a := P2) (na := 16) (by simp) _ (by first | rfl | simp) (b := trim a) (nb := 16) (by simp) _ (by first | rfl | simp) true (sameB_yes (only_own HG1.out.2 HSM.out HP.out.1 HP.out.2))).mono ?_
      rintro e w' ⟨rfl, rfl⟩
      go_wp2_with fail
      refine (thr0R H4.out (a := b) (na := 16) (by simp) _ (by first | rfl | simp) (b := c) (nb := 16) (by simp) _ (by first | rfl | simp) (by decide) HG2.out).mono ?_
      rintro e w5 ⟨rfl, h⟩
      have H5 := Lib.hid h
      clear h
      go_wp2_with fail
      refine (works_any _).mono ?_
      rintro e w6 ⟨rfl, hb⟩
      have H6 := Lib.hid (PS.keep H5.out hb)
      clear hb
      go_wp2_with fail
      go_ret
      exact ⟨rfl, PS.below H6.out⟩
set_option maxRecDepth 100000 in
set_option maxHeartbeats 4000000 in
theorem only_20 (w : World) (A : Option Addr) (a : List UInt8) (ca : Nat) (hca : a.length ≤ ca) (hA : Bytes w w.heap.size A a) (B : Option Addr) (b : List UInt8) (cb : Nat) (hcb : b.length ≤ cb) (hB : Bytes w w.heap.size B b) (C : Option Addr) (c : List UInt8) (cc : Nat) (hcc : c.length ≤ cc) (hC : Bytes w w.heap.size C c) (h : a.length ≤ 16 ∧ b.length ≤ 16 ∧ c.length ≤ 16) (hn : b.Nodup) (hg : Good b c) (hsm : ¬ len a ≤ b.length) :
    Calls Try.prog 7 #[.slice A a.length ca, .slice B b.length cb, .slice C c.length cc] w fun e w' => e = .returned (.bool true) ∧ Below w.heap.size w w' := by
  have hs0 : ¬ (16 : Int) < (a.length : Int) := by omega
  have hs1 : ¬ (16 : Int) < (b.length : Int) := by omega
  have hs2 : ¬ (16 : Int) < (c.length : Int) := by omega
  have H0 := Lib.hid ((((PB.start w).arg 16 hC hcc h.2.2).arg 16 hB hcb h.2.1).arg 16 hA hca h.1)
  obtain ⟨i0, hi0, hz0, hz1, hz2⟩ := info_parts u8info
  have HXL := Lib.hid h
  have HG1 := Lib.hid (show Good b (b.map (ev a)) from ⟨by simp, hn⟩)
  have HG2 := Lib.hid hg
  clear hg hn
  have hdg : ¬ (len a : Int) - 1 < (b.length : Int) := by omega
  clear hsm
  clear h
  go_enter Try.func7, Try.ntmps7
  go_wp2_with fail
  refine (newP H0.out).mono ?_
  rintro e w1 ⟨rfl, h⟩
  have H1 := Lib.hid h
  clear h
  go_wp2_with fail
  go_loopw [8, 9] (fun s i wr => ∃ (j : Nat) (O : Option Addr) (co : Nat), i = .int .i64 (j : Int) ∧ j ≤ b.length ∧ s = .slice O j co ∧ PS w w.heap.size [⟨A, a, ca, 16⟩, ⟨B, b, cb, 16⟩, ⟨C, c, cc, 16⟩] wr ∧ Mem.Own wr w.heap.size 5 O co (((b.take j).map (ev a)).map u8v)) (fun _ i _ => b.length - (intOf i).toNat)
  case atStart => exact ⟨0, none, 0, rfl, Nat.zero_le _, rfl, H1.out, Own.nil⟩
  case round =>
    obtain ⟨j, O, co, rfl, hj, rfl, hps, ho⟩ := hrel
    have HPS := Lib.hid (And.intro hps ho)
    clear hps ho
    by_cases hjb : j < b.length
    · obtain ⟨gb, ob, rfl, _, hcb2⟩ := (HPS.out.1.2 ⟨B, b, cb, 16⟩ (by simp)).1.1.at_ (k := j) hjb
      dsimp only at hcb2
      rw [← cf_lt hjb] at hcb2
      have HOS := Lib.hid (show ((b.take (j + 1)).map (ev a)).map u8v = ((b.take j).map (ev a)).map u8v ++ [u8v (ev a (cf b j))] from by rw [List.take_succ_eq_append_getElem hjb, cf_lt hjb, List.map_append, List.map_append]; rfl)
      have hji : (j : Int) < (b.length : Int) := by omega
      have hj16 : j ≤ 16 := by have := HXL.out.2.1; omega
      have HJ := Lib.hid hjb
      have HJL := Lib.hid (show j = (((b.take j).map (ev a)).map u8v).length from by simp; omega)
      clear hjb hj
      generalize cf b j = z at *
      go_wp2_with fail
      refine (at_any wr _ HPS.out.1.1.2.1 A a _ ca rfl (by have := HXL.out.1; omega) (HPS.out.1.2 ⟨A, a, ca, 16⟩ (by simp)).1 _ z rfl).mono ?_
      rintro e w5 ⟨rfl, hF5, hf5⟩
      have hf5b : Fr (fun k => k = w.heap.size) wr w5 := hf5.mono fun k _ hk => by injection hk with hk; exact hk.symm
      have HP5 := Lib.hid (PS.fr HPS.out.1 (hF5 _ rfl) hf5b)
      have HO5 := Lib.hid (HPS.out.2.fr hf5b (fun gg hgg e => own_ne_fld HPS.out.2 HPS.out.1.1.2.1 gg hgg e))
      clear hF5 hf5 hf5b
      generalize ev a z = y at *
      have hbs := build1 w5 (y.toNat : Int)
      go_wp2_with ((with_reducible show wpList _ _ _ ((⟨some 45, _, _, _, _, _⟩ : Oper) :: _) _ _); refine wpList_app _ rfl _ _ _ rfl w.heap.size 5 i0 _ 1 Try.underlying22 hi0 hz0 hz1 hz2 rfl O co j _ rfl HJL.out (HO5.out.alloc _) (w5.heap.size + 1) (some ⟨w5.heap.size, 0, none⟩) 1 1 [.int .u8 (y.toNat : Int)] rfl rfl (cells_one w5 _ _ _ (by omega)) (fun u hu => by simp at hu; subst hu; rfl) (by rw [← HJL.out]; simp [maxLen]; omega) (by rw [← HJL.out]; simp; omega) (by have := HP5.out.1.2.2.size; simp; omega) (j + 1) rfl ?_; intro A6 c6 w6 ho6 hb6 hg6 hA6)
      have HO6 := Lib.hid ho6
      have HP6 := Lib.hid (ps_app HP5.out hb6 hg6 (HO5.out.alloc _) (fun r hr => by rcases hr with _ | ⟨_, _ | ⟨_, _ | ⟨_, hr⟩⟩⟩ <;> first | exact hA | exact hB | exact hC | cases hr))
      clear ho6 hb6 hg6 hA6 hbs
      go_wp2_with fail
      go_roundw
      case rel => exact ⟨j + 1, A6, c6, rfl, HJ.out, rfl, HP6.out, by rw [HOS.out]; exact HO6.out⟩
      case measure => simp [intOf]; have := HJ.out; omega
    · obtain rfl : j = b.length := by omega
      have HOW := Lib.hid (PS.row HPS.out.1 (A := O) (l := b.map (ev a)) (c := co) 16 (by have := HPS.out.2; rwa [List.take_length] at this) (by rw [List.length_map]; exact HXL.out.2.1))
      clear hjb hj
      go_wp2_with fail
      refine (thrR HOW.out (a := b) (na := 16) (by simp) _ (by first | rfl | simp) (b := b.map (ev a)) (nb := 16) (by simp) _ (by first | rfl | simp) (by decide) HG1.out 16 (by decide)).mono ?_
      rintro e w2 ⟨P2, A2, c2, hd, ht, rfl, h⟩
      have HP := Lib.hid (And.intro hd ht)
      clear hd ht
      have H2 := Lib.hid h
      clear h
      go_wp2_with fail
      refine (degR H2.out (a := a) (na := 16) (by simp) _ rfl (by decide)).mono ?_
      rintro e w3 ⟨rfl, h⟩
      have H3 := Lib.hid h
      clear h
      go_wp2_with fail
      refine (thrR H3.out (a := b) (na := 16) (by simp) _ (by first | rfl | simp) (b := c) (nb := 16) (by simp) _ (by first | rfl | simp) (by decide) HG2.out 16 (by decide)).mono ?_
      rintro e w4 ⟨P4, A4, c4, hd, ht, rfl, h⟩
      have HQ := Lib.hid (And.intro hd ht)
      clear hd ht
      have H4 := Lib.hid h
      clear h
      go_wp2_with fail
      go_loopw [14] (fun i wx => ∃ j : Nat, i = .int .i64 (j : Int) ∧ j ≤ b.length ∧ PS w w.heap.size [⟨A4, P4, c4, 16⟩, ⟨A2, P2, c2, 16⟩, ⟨O, b.map (ev a), co, 16⟩, ⟨A, a, ca, 16⟩, ⟨B, b, cb, 16⟩, ⟨C, c, cc, 16⟩] wx) (fun i _ => b.length - (intOf i).toNat)
      case atStart => exact ⟨0, rfl, Nat.zero_le _, H4.out⟩
      case round =>
        obtain ⟨j, rfl, hj, hps⟩ := hrel
        have HPX := Lib.hid hps
        clear hps
        by_cases hjb : j < b.length
        · obtain ⟨gb, ob, rfl, _, hcb2⟩ := (HPX.out.2 ⟨B, b, cb, 16⟩ (by simp)).1.1.at_ (k := j) hjb
          obtain ⟨gc, oc, rfl, _, hcc2⟩ := (HPX.out.2 ⟨C, c, cc, 16⟩ (by simp)).1.1.at_ (k := j) (by have := HG2.out.1; dsimp only; omega)
          have HNC := Lib.hid ((HPX.out.2 ⟨some ⟨gc, oc, none⟩, c, cc, 16⟩ (by simp)).1.2 gc oc rfl (by have := HG2.out.1; dsimp only; omega))
          dsimp only at hcb2 hcc2
          rw [← cf_lt hjb] at hcb2
          rw [← cf_lt (show j < c.length by have := HG2.out.1; omega)] at hcc2
          have HVQ := Lib.hid (only_val HG2.out.1 HQ.out.1 hjb)
          have hji : (j : Int) < (b.length : Int) := by omega
          have hjc : (j : Int) < (c.length : Int) := by have := HG2.out.1; omega
          have HJ := Lib.hid hjb
          clear hjb hj
          generalize cf b j = x at *
          generalize cf c j = y at *
          go_wp2_with fail
          have HNB := Lib.hid ((HPX.out.2 ⟨some ⟨gb, ob, none⟩, b, cb, 16⟩ (by simp)).1.2 gb ob rfl (by have := HJ.out; dsimp only; omega))
          refine wp_region_noPanic ?_
          refine wp_region_held_drew (S := fun w' => w'.cell? ⟨gb, ob + j, none⟩ = some (.int .u8 (x.toNat : Int)) ∧ w'.cell? ⟨gc, oc + j, none⟩ = some (.int .u8 (y.toNat : Int))) (by kernel_rfl) ?hs0 ?rg0
          case hs0 =>
            exact ⟨hcb2, hcc2⟩
          case rg0 =>
          intro hHeld
          refine wpAnyH_take (i := 0) (oi := { dst := some 85, op := Op.move (Operand.tmp 7), type := 24, pos := _, after := #[], guard := none }) (v := ?_) rfl (by kernel_rfl) (by kernel_rfl) (by kernel_rfl) (fun _ _ _ h => h) (Or.inl ⟨by rfl, ?_⟩) (by assumption) ?_
          rotate_left
          · intro w hSw
            try dsimp only at hSw
            go_simp
            try with_reducible rfl
          try simp only [Act.put, List.setIfInBounds_toArray, List.set_cons_zero, List.set_cons_succ]
          refine wpAnyH_take (i := 1) (oi := { dst := some 86, op := Op.move (Operand.tmp 12), type := 22, pos := _, after := #[], guard := none }) (v := ?_) rfl (by kernel_rfl) (by kernel_rfl) (by kernel_rfl) (fun _ _ _ h => h) (Or.inl ⟨by rfl, ?_⟩) (by assumption) ?_
          rotate_left
          · intro w hSw
            try dsimp only at hSw
            go_simp
            try with_reducible rfl
          try simp only [Act.put, List.setIfInBounds_toArray, List.set_cons_zero, List.set_cons_succ]
          refine wpAnyH_take (i := 2) (oi := { dst := some 87, op := Op.move (Operand.tmp 1), type := 22, pos := _, after := #[], guard := none }) (v := ?_) rfl (by kernel_rfl) (by kernel_rfl) (by kernel_rfl) (fun _ _ _ h => h) (Or.inl ⟨by rfl, ?_⟩) (by assumption) ?_
          rotate_left
          · intro w hSw
            try dsimp only at hSw
            go_simp
            try with_reducible rfl
          try simp only [Act.put, List.setIfInBounds_toArray, List.set_cons_zero, List.set_cons_succ]
          refine wpAnyH_take (i := 3) (oi := { dst := some 88, op := Op.move (Operand.tmp 14), type := 3, pos := _, after := #[], guard := none }) (v := ?_) rfl (by kernel_rfl) (by kernel_rfl) (by kernel_rfl) (fun _ _ _ h => h) (Or.inl ⟨by rfl, ?_⟩) (by assumption) ?_
          rotate_left
          · intro w hSw
            try dsimp only at hSw
            go_simp
            try with_reducible rfl
          try simp only [Act.put, List.setIfInBounds_toArray, List.set_cons_zero, List.set_cons_succ]
          refine wpAnyH_take (i := 4) (oi := { dst := some 89, op := Op.indexAddr 22 (Operand.tmp 87) (Operand.tmp 88), type := 0, pos := _, after := #[{ on := 2, ground := Ground.data }, { on := 3, ground := Ground.data }], guard := none }) (v := ?_) rfl (by kernel_rfl) (by kernel_rfl) (by kernel_rfl) (fun _ _ _ h => h) (Or.inl ⟨by rfl, ?_⟩) (by assumption) ?_
          rotate_left
          · intro w hSw
            try dsimp only at hSw
            go_simp
            try with_reducible rfl
          try simp only [Act.put, List.setIfInBounds_toArray, List.set_cons_zero, List.set_cons_succ]
          refine wpAnyH_take (i := 5) (oi := { dst := some 90, op := Op.load 5 (Operand.tmp 89), type := 5, pos := _, after := #[{ on := 4, ground := Ground.data }], guard := none }) (v := ?_) rfl (by kernel_rfl) (by kernel_rfl) (by kernel_rfl) (fun _ _ _ h => h) (Or.inl ⟨by rfl, ?_⟩) (by assumption) ?_
          rotate_left
          · intro w hSw
            try dsimp only at hSw
            go_simp
            try with_reducible rfl
          try simp only [Act.put, List.setIfInBounds_toArray, List.set_cons_zero, List.set_cons_succ]
          refine wpAnyH_take (i := 7) (oi := { dst := some 92, op := Op.move (Operand.tmp 2), type := 22, pos := _, after := #[], guard := none }) (v := ?_) rfl (by kernel_rfl) (by kernel_rfl) (by kernel_rfl) (fun _ _ _ h => h) (Or.inl ⟨by rfl, ?_⟩) (by assumption) ?_
          rotate_left
          · intro w hSw
            try dsimp only at hSw
            go_simp
            try with_reducible rfl
          try simp only [Act.put, List.setIfInBounds_toArray, List.set_cons_zero, List.set_cons_succ]
          refine wpAnyH_take (i := 8) (oi := { dst := some 93, op := Op.move (Operand.tmp 14), type := 3, pos := _, after := #[], guard := none }) (v := ?_) rfl (by kernel_rfl) (by kernel_rfl) (by kernel_rfl) (fun _ _ _ h => h) (Or.inl ⟨by rfl, ?_⟩) (by assumption) ?_
          rotate_left
          · intro w hSw
            try dsimp only at hSw
            go_simp
            try with_reducible rfl
          try simp only [Act.put, List.setIfInBounds_toArray, List.set_cons_zero, List.set_cons_succ]
          refine wpAnyH_take (i := 9) (oi := { dst := some 94, op := Op.indexAddr 22 (Operand.tmp 92) (Operand.tmp 93), type := 0, pos := _, after := #[{ on := 7, ground := Ground.data }, { on := 8, ground := Ground.data }], guard := none }) (v := ?_) rfl (by kernel_rfl) (by kernel_rfl) (by kernel_rfl) (fun _ _ _ h => h) (Or.inl ⟨by rfl, ?_⟩) (by assumption) ?_
          rotate_left
          · intro w hSw
            try dsimp only at hSw
            go_simp
            try with_reducible rfl
          try simp only [Act.put, List.setIfInBounds_toArray, List.set_cons_zero, List.set_cons_succ]
          refine wpAnyH_take (i := 10) (oi := { dst := some 95, op := Op.load 5 (Operand.tmp 94), type := 5, pos := _, after := #[{ on := 9, ground := Ground.data }], guard := none }) (v := ?_) rfl (by kernel_rfl) (by kernel_rfl) (by kernel_rfl) (fun _ _ _ h => h) (Or.inl ⟨by rfl, ?_⟩) (by assumption) ?_
          rotate_left
          · intro w hSw
            try dsimp only at hSw
            go_simp
            try with_reducible rfl
          try simp only [Act.put, List.setIfInBounds_toArray, List.set_cons_zero, List.set_cons_succ]
          refine wpAnyH_ready (rs := [6]) (by kernel_rfl) (by simp) ?_
          refine AllReadyH.cons (o := { dst := some 91, op := Op.call { callee := Callee.value (Operand.func 26), args := #[Operand.tmp 85, Operand.tmp 86, Operand.tmp 90], argTypes := #[24, 22, 5] }, type := 5, pos := _, after := #[{ on := 0, ground := Ground.data }, { on := 1, ground := Ground.data }, { on := 5, ground := Ground.data }], guard := none }) rfl (fun K hK => ?_) AllReadyH.nil
          go_simp
          refine (at_any wr.drew _ (HPX.out.1.2.1.keep (nextN (Mem.start wr) 1)) A4 P4 _ c4 rfl (by have := (HPX.out.2 ⟨A4, P4, c4, 16⟩ (by simp)).2.2; dsimp only at this; omega) ((HPX.out.2 ⟨A4, P4, c4, 16⟩ (by simp)).1.keep (nextN (Mem.start wr) 1)) _ x rfl).mono ?_
          rintro e w8 ⟨rfl, hF8, hf8⟩
          rw [HVQ.out]
          have H8 := Lib.hid (And.intro hF8 hf8)
          clear hF8 hf8
          try dsimp only
          refine hK.out _ _ ?_ (fun hHeld => ?_)
          · try dsimp only
            exact ⟨cellFr H8.out.2 hHeld.1 (fun e => HNB.out (by injection e with e; exact e.symm)), cellFr H8.out.2 hHeld.2 (fun e => HNC.out (by injection e with e; exact e.symm))⟩
          clear hK K
          try simp only [Act.put, List.setIfInBounds_toArray, List.set_cons_zero, List.set_cons_succ]
          refine wpAnyH_take (i := 11) (oi := { dst := some 96, op := Op.binOp BinOp.neq 5 (Operand.tmp 91) (Operand.tmp 95) 5, type := 4, pos := _, after := #[{ on := 6, ground := Ground.data }, { on := 10, ground := Ground.data }], guard := none }) (v := ?_) rfl (by kernel_rfl) (by kernel_rfl) (by kernel_rfl) (fun _ _ _ h => h) (Or.inl ⟨by rfl, ?_⟩) (by assumption) ?_
          rotate_left
          · intro w hSw
            try dsimp only at hSw
            go_simp
            try with_reducible rfl
          try simp only [Act.put, List.setIfInBounds_toArray, List.set_cons_zero, List.set_cons_succ]
          refine wpAnyH_done (by kernel_rfl) ?_ _
          refine NoPanic.normal ?_
          have hyy : ((y.toNat : Int) != (y.toNat : Int)) = false := by simp
          go_wp2_with fail
          go_roundw
          case rel => exact ⟨j + 1, rfl, HJ.out, PS.fr (PS.keep HPX.out (nextN (Mem.start wr) 1)) (H8.out.1 _ rfl) (H8.out.2.mono fun k _ hk => by injection hk with hk; exact hk.symm)⟩
          case measure => simp [intOf]; have := HJ.out; omega
        · obtain rfl : j = b.length := by omega
          have HDQ := Lib.hid (show len P4 ≤ b.length from HQ.out.1.1)
          clear hjb hj
          go_wp2_with fail
          refine (degR HPX.out (a := P4) (na := 16) (by simp) _ rfl (by decide)).mono ?_
          rintro e w5 ⟨rfl, h⟩
          have hq9 : (len P4 : Int) - 1 < (b.length : Int) := by have := HDQ.out; omega
          have H5 := Lib.hid h
          clear h
          by_cases hb0 : b.length = 0
          · have hb0i : ((b.length : Int) == 0) = true := by simp [hb0]
            clear hb0
            go_wp2_with fail
            refine (works_any _).mono ?_
            rintro e w6 ⟨rfl, hb⟩
            have H6 := Lib.hid (PS.keep H5.out hb)
            clear hb
            go_wp2_with fail
            go_ret
            exact ⟨rfl, PS.below H6.out⟩
          · have hb0i : ((b.length : Int) == 0) = false := by simpa using hb0
            clear hb0
            have HSB := Lib.hid (only_same HG1.out.2 HG2.out.1 HP.out.1 HP.out.2 HQ.out.1 HQ.out.2)
            go_wp2_with fail
            refine (sameR H5.out (a := P2) (na := 16) (by simp) _ (by first | rfl | simp) (b := P4) (nb := 16) (by simp) _ (by first | rfl | simp) (sameB (b.map (ev a)) c) HSB.out).mono ?_
            rintro e w' ⟨rfl, rfl⟩
            go_wp2_with fail
            refine (sameR H5.out (a := b.map (ev a)) (na := 16) (by simp) _ (by first | rfl | simp) (b := c) (nb := 16) (by simp) _ (by first | rfl | simp) (sameB (b.map (ev a)) c) rfl).mono ?_
            rintro e w' ⟨rfl, rfl⟩
            generalize sameB (b.map (ev a)) c = sb at *
            have hsb : (sb == sb) = true := by cases sb <;> rfl
            go_wp2_with fail
            refine (works_any _).mono ?_
            rintro e w6 ⟨rfl, hb⟩
            have H6 := Lib.hid (PS.keep H5.out hb)
            clear hb
            go_wp2_with fail
            go_ret
            exact ⟨rfl, PS.below H6.out⟩
set_option maxRecDepth 100000 in
set_option maxHeartbeats 4000000 in
theorem only_21 (w : World) (A : Option Addr) (a : List UInt8) (ca : Nat) (hca : a.length ≤ ca) (hA : Bytes w w.heap.size A a) (B : Option Addr) (b : List UInt8) (cb : Nat) (hcb : b.length ≤ cb) (hB : Bytes w w.heap.size B b) (C : Option Addr) (c : List UInt8) (cc : Nat) (hcc : c.length ≤ cc) (hC : Bytes w w.heap.size C c) (h : a.length ≤ 16 ∧ b.length ≤ 16 ∧ c.length ≤ 16) (hn : b.Nodup) (hg : Good b c) (hsm : len a ≤ b.length) :
    Calls Try.prog 7 #[.slice A a.length ca, .slice B b.length cb, .slice C c.length cc] w fun e w' => e = .returned (.bool true) ∧ Below w.heap.size w w' := by
  have hs0 : ¬ (16 : Int) < (a.length : Int) := by omega
  have hs1 : ¬ (16 : Int) < (b.length : Int) := by omega
  have hs2 : ¬ (16 : Int) < (c.length : Int) := by omega
  have H0 := Lib.hid ((((PB.start w).arg 16 hC hcc h.2.2).arg 16 hB hcb h.2.1).arg 16 hA hca h.1)
  obtain ⟨i0, hi0, hz0, hz1, hz2⟩ := info_parts u8info
  have HXL := Lib.hid h
  have HG1 := Lib.hid (show Good b (b.map (ev a)) from ⟨by simp, hn⟩)
  have HG2 := Lib.hid hg
  clear hg hn
  have HSM := Lib.hid hsm
  have hdg : (len a : Int) - 1 < (b.length : Int) := by omega
  clear hsm
  clear h
  go_enter Try.func7, Try.ntmps7
  go_wp2_with fail
  refine (newP H0.out).mono ?_
  rintro e w1 ⟨rfl, h⟩
  have H1 := Lib.hid h
  clear h
  go_wp2_with fail
  go_loopw [8, 9] (fun s i wr => ∃ (j : Nat) (O : Option Addr) (co : Nat), i = .int .i64 (j : Int) ∧ j ≤ b.length ∧ s = .slice O j co ∧ PS w w.heap.size [⟨A, a, ca, 16⟩, ⟨B, b, cb, 16⟩, ⟨C, c, cc, 16⟩] wr ∧ Mem.Own wr w.heap.size 5 O co (((b.take j).map (ev a)).map u8v)) (fun _ i _ => b.length - (intOf i).toNat)
  case atStart => exact ⟨0, none, 0, rfl, Nat.zero_le _, rfl, H1.out, Own.nil⟩
  case round =>
    obtain ⟨j, O, co, rfl, hj, rfl, hps, ho⟩ := hrel
    have HPS := Lib.hid (And.intro hps ho)
    clear hps ho
    by_cases hjb : j < b.length
    · obtain ⟨gb, ob, rfl, _, hcb2⟩ := (HPS.out.1.2 ⟨B, b, cb, 16⟩ (by simp)).1.1.at_ (k := j) hjb
      dsimp only at hcb2
      rw [← cf_lt hjb] at hcb2
      have HOS := Lib.hid (show ((b.take (j + 1)).map (ev a)).map u8v = ((b.take j).map (ev a)).map u8v ++ [u8v (ev a (cf b j))] from by rw [List.take_succ_eq_append_getElem hjb, cf_lt hjb, List.map_append, List.map_append]; rfl)
      have hji : (j : Int) < (b.length : Int) := by omega
      have hj16 : j ≤ 16 := by have := HXL.out.2.1; omega
      have HJ := Lib.hid hjb
      have HJL := Lib.hid (show j = (((b.take j).map (ev a)).map u8v).length from by simp; omega)
      clear hjb hj
      generalize cf b j = z at *
      go_wp2_with fail
      refine (at_any wr _ HPS.out.1.1.2.1 A a _ ca rfl (by have := HXL.out.1; omega) (HPS.out.1.2 ⟨A, a, ca, 16⟩ (by simp)).1 _ z rfl).mono ?_
      rintro e w5 ⟨rfl, hF5, hf5⟩
      have hf5b : Fr (fun k => k = w.heap.size) wr w5 := hf5.mono fun k _ hk => by injection hk with hk; exact hk.symm
      have HP5 := Lib.hid (PS.fr HPS.out.1 (hF5 _ rfl) hf5b)
      have HO5 := Lib.hid (HPS.out.2.fr hf5b (fun gg hgg e => own_ne_fld HPS.out.2 HPS.out.1.1.2.1 gg hgg e))
      clear hF5 hf5 hf5b
      generalize ev a z = y at *
      have hbs := build1 w5 (y.toNat : Int)
      go_wp2_with ((with_reducible show wpList _ _ _ ((⟨some 45, _, _, _, _, _⟩ : Oper) :: _) _ _); refine wpList_app _ rfl _ _ _ rfl w.heap.size 5 i0 _ 1 Try.underlying22 hi0 hz0 hz1 hz2 rfl O co j _ rfl HJL.out (HO5.out.alloc _) (w5.heap.size + 1) (some ⟨w5.heap.size, 0, none⟩) 1 1 [.int .u8 (y.toNat : Int)] rfl rfl (cells_one w5 _ _ _ (by omega)) (fun u hu => by simp at hu; subst hu; rfl) (by rw [← HJL.out]; simp [maxLen]; omega) (by rw [← HJL.out]; simp; omega) (by have := HP5.out.1.2.2.size; simp; omega) (j + 1) rfl ?_; intro A6 c6 w6 ho6 hb6 hg6 hA6)
      have HO6 := Lib.hid ho6
      have HP6 := Lib.hid (ps_app HP5.out hb6 hg6 (HO5.out.alloc _) (fun r hr => by rcases hr with _ | ⟨_, _ | ⟨_, _ | ⟨_, hr⟩⟩⟩ <;> first | exact hA | exact hB | exact hC | cases hr))
      clear ho6 hb6 hg6 hA6 hbs
      go_wp2_with fail
      go_roundw
      case rel => exact ⟨j + 1, A6, c6, rfl, HJ.out, rfl, HP6.out, by rw [HOS.out]; exact HO6.out⟩
      case measure => simp [intOf]; have := HJ.out; omega
    · obtain rfl : j = b.length := by omega
      have HOW := Lib.hid (PS.row HPS.out.1 (A := O) (l := b.map (ev a)) (c := co) 16 (by have := HPS.out.2; rwa [List.take_length] at this) (by rw [List.length_map]; exact HXL.out.2.1))
      clear hjb hj
      go_wp2_with fail
      refine (thrR HOW.out (a := b) (na := 16) (by simp) _ (by first | rfl | simp) (b := b.map (ev a)) (nb := 16) (by simp) _ (by first | rfl | simp) (by decide) HG1.out 16 (by decide)).mono ?_
      rintro e w2 ⟨P2, A2, c2, hd, ht, rfl, h⟩
      have HP := Lib.hid (And.intro hd ht)
      clear hd ht
      have H2 := Lib.hid h
      clear h
      go_wp2_with fail
      refine (degR H2.out (a := a) (na := 16) (by simp) _ rfl (by decide)).mono ?_
      rintro e w3 ⟨rfl, h⟩
      have H3 := Lib.hid h
      clear h
      go_wp2_with fail
      refine (trimR H3.out (a := a) (na := 16) (by simp) _ rfl (by decide)).mono ?_
      rintro e w4 ⟨A4, c4, rfl, h⟩
      have H4 := Lib.hid h
      clear h
      go_wp2_with fail
      refine (sameR H4.out (a := P2) (na := 16) (by simp) _ (by first | rfl | simp) (b := trim a) (nb := 16) (by simp) _ (by first | rfl | simp) true (sameB_yes (only_own HG1.out.2 HSM.out HP.out.1 HP.out.2))).mono ?_
      rintro e w' ⟨rfl, rfl⟩
      go_wp2_with fail
      refine (thrR H4.out (a := b) (na := 16) (by simp) _ (by first | rfl | simp) (b := c) (nb := 16) (by simp) _ (by first | rfl | simp) (by decide) HG2.out 16 (by decide)).mono ?_
      rintro e w5 ⟨P5, A5, c5, hd, ht, rfl, h⟩
      have HQ := Lib.hid (And.intro hd ht)
      clear hd ht
      have H5 := Lib.hid h
      clear h
      go_wp2_with fail
      go_loopw [14] (fun i wx => ∃ j : Nat, i = .int .i64 (j : Int) ∧ j ≤ b.length ∧ PS w w.heap.size [⟨A5, P5, c5, 16⟩, ⟨A4, trim a, c4, 16⟩, ⟨A2, P2, c2, 16⟩, ⟨O, b.map (ev a), co, 16⟩, ⟨A, a, ca, 16⟩, ⟨B, b, cb, 16⟩, ⟨C, c, cc, 16⟩] wx) (fun i _ => b.length - (intOf i).toNat)
      case atStart => exact ⟨0, rfl, Nat.zero_le _, H5.out⟩
      case round =>
        obtain ⟨j, rfl, hj, hps⟩ := hrel
        have HPX := Lib.hid hps
        clear hps
        by_cases hjb : j < b.length
        · obtain ⟨gb, ob, rfl, _, hcb2⟩ := (HPX.out.2 ⟨B, b, cb, 16⟩ (by simp)).1.1.at_ (k := j) hjb
          obtain ⟨gc, oc, rfl, _, hcc2⟩ := (HPX.out.2 ⟨C, c, cc, 16⟩ (by simp)).1.1.at_ (k := j) (by have := HG2.out.1; dsimp only; omega)
          have HNC := Lib.hid ((HPX.out.2 ⟨some ⟨gc, oc, none⟩, c, cc, 16⟩ (by simp)).1.2 gc oc rfl (by have := HG2.out.1; dsimp only; omega))
          dsimp only at hcb2 hcc2
          rw [← cf_lt hjb] at hcb2
          rw [← cf_lt (show j < c.length by have := HG2.out.1; omega)] at hcc2
          have HVQ := Lib.hid (only_val HG2.out.1 HQ.out.1 hjb)
          have hji : (j : Int) < (b.length : Int) := by omega
          have hjc : (j : Int) < (c.length : Int) := by have := HG2.out.1; omega
          have HJ := Lib.hid hjb
          clear hjb hj
          generalize cf b j = x at *
          generalize cf c j = y at *
          go_wp2_with fail
          have HNB := Lib.hid ((HPX.out.2 ⟨some ⟨gb, ob, none⟩, b, cb, 16⟩ (by simp)).1.2 gb ob rfl (by have := HJ.out; dsimp only; omega))
          refine wp_region_noPanic ?_
          refine wp_region_held_drew (S := fun w' => w'.cell? ⟨gb, ob + j, none⟩ = some (.int .u8 (x.toNat : Int)) ∧ w'.cell? ⟨gc, oc + j, none⟩ = some (.int .u8 (y.toNat : Int))) (by kernel_rfl) ?hs0 ?rg0
          case hs0 =>
            exact ⟨hcb2, hcc2⟩
          case rg0 =>
          intro hHeld
          refine wpAnyH_take (i := 0) (oi := { dst := some 85, op := Op.move (Operand.tmp 7), type := 24, pos := _, after := #[], guard := none }) (v := ?_) rfl (by kernel_rfl) (by kernel_rfl) (by kernel_rfl) (fun _ _ _ h => h) (Or.inl ⟨by rfl, ?_⟩) (by assumption) ?_
          rotate_left
          · intro w hSw
            try dsimp only at hSw
            go_simp
            try with_reducible rfl
          try simp only [Act.put, List.setIfInBounds_toArray, List.set_cons_zero, List.set_cons_succ]
          refine wpAnyH_take (i := 1) (oi := { dst := some 86, op := Op.move (Operand.tmp 12), type := 22, pos := _, after := #[], guard := none }) (v := ?_) rfl (by kernel_rfl) (by kernel_rfl) (by kernel_rfl) (fun _ _ _ h => h) (Or.inl ⟨by rfl, ?_⟩) (by assumption) ?_
          rotate_left
          · intro w hSw
            try dsimp only at hSw
            go_simp
            try with_reducible rfl
          try simp only [Act.put, List.setIfInBounds_toArray, List.set_cons_zero, List.set_cons_succ]
          refine wpAnyH_take (i := 2) (oi := { dst := some 87, op := Op.move (Operand.tmp 1), type := 22, pos := _, after := #[], guard := none }) (v := ?_) rfl (by kernel_rfl) (by kernel_rfl) (by kernel_rfl) (fun _ _ _ h => h) (Or.inl ⟨by rfl, ?_⟩) (by assumption) ?_
          rotate_left
          · intro w hSw
            try dsimp only at hSw
            go_simp
            try with_reducible rfl
          try simp only [Act.put, List.setIfInBounds_toArray, List.set_cons_zero, List.set_cons_succ]
          refine wpAnyH_take (i := 3) (oi := { dst := some 88, op := Op.move (Operand.tmp 14), type := 3, pos := _, after := #[], guard := none }) (v := ?_) rfl (by kernel_rfl) (by kernel_rfl) (by kernel_rfl) (fun _ _ _ h => h) (Or.inl ⟨by rfl, ?_⟩) (by assumption) ?_
          rotate_left
          · intro w hSw
            try dsimp only at hSw
            go_simp
            try with_reducible rfl
          try simp only [Act.put, List.setIfInBounds_toArray, List.set_cons_zero, List.set_cons_succ]
          refine wpAnyH_take (i := 4) (oi := { dst := some 89, op := Op.indexAddr 22 (Operand.tmp 87) (Operand.tmp 88), type := 0, pos := _, after := #[{ on := 2, ground := Ground.data }, { on := 3, ground := Ground.data }], guard := none }) (v := ?_) rfl (by kernel_rfl) (by kernel_rfl) (by kernel_rfl) (fun _ _ _ h => h) (Or.inl ⟨by rfl, ?_⟩) (by assumption) ?_
          rotate_left
          · intro w hSw
            try dsimp only at hSw
            go_simp
            try with_reducible rfl
          try simp only [Act.put, List.setIfInBounds_toArray, List.set_cons_zero, List.set_cons_succ]
          refine wpAnyH_take (i := 5) (oi := { dst := some 90, op := Op.load 5 (Operand.tmp 89), type := 5, pos := _, after := #[{ on := 4, ground := Ground.data }], guard := none }) (v := ?_) rfl (by kernel_rfl) (by kernel_rfl) (by kernel_rfl) (fun _ _ _ h => h) (Or.inl ⟨by rfl, ?_⟩) (by assumption) ?_
          rotate_left
          · intro w hSw
            try dsimp only at hSw
            go_simp
            try with_reducible rfl
          try simp only [Act.put, List.setIfInBounds_toArray, List.set_cons_zero, List.set_cons_succ]
          refine wpAnyH_take (i := 7) (oi := { dst := some 92, op := Op.move (Operand.tmp 2), type := 22, pos := _, after := #[], guard := none }) (v := ?_) rfl (by kernel_rfl) (by kernel_rfl) (by kernel_rfl) (fun _ _ _ h => h) (Or.inl ⟨by rfl, ?_⟩) (by assumption) ?_
          rotate_left
          · intro w hSw
            try dsimp only at hSw
            go_simp
            try with_reducible rfl
          try simp only [Act.put, List.setIfInBounds_toArray, List.set_cons_zero, List.set_cons_succ]
          refine wpAnyH_take (i := 8) (oi := { dst := some 93, op := Op.move (Operand.tmp 14), type := 3, pos := _, after := #[], guard := none }) (v := ?_) rfl (by kernel_rfl) (by kernel_rfl) (by kernel_rfl) (fun _ _ _ h => h) (Or.inl ⟨by rfl, ?_⟩) (by assumption) ?_
          rotate_left
          · intro w hSw
            try dsimp only at hSw
            go_simp
            try with_reducible rfl
          try simp only [Act.put, List.setIfInBounds_toArray, List.set_cons_zero, List.set_cons_succ]
          refine wpAnyH_take (i := 9) (oi := { dst := some 94, op := Op.indexAddr 22 (Operand.tmp 92) (Operand.tmp 93), type := 0, pos := _, after := #[{ on := 7, ground := Ground.data }, { on := 8, ground := Ground.data }], guard := none }) (v := ?_) rfl (by kernel_rfl) (by kernel_rfl) (by kernel_rfl) (fun _ _ _ h => h) (Or.inl ⟨by rfl, ?_⟩) (by assumption) ?_
          rotate_left
          · intro w hSw
            try dsimp only at hSw
            go_simp
            try with_reducible rfl
          try simp only [Act.put, List.setIfInBounds_toArray, List.set_cons_zero, List.set_cons_succ]
          refine wpAnyH_take (i := 10) (oi := { dst := some 95, op := Op.load 5 (Operand.tmp 94), type := 5, pos := _, after := #[{ on := 9, ground := Ground.data }], guard := none }) (v := ?_) rfl (by kernel_rfl) (by kernel_rfl) (by kernel_rfl) (fun _ _ _ h => h) (Or.inl ⟨by rfl, ?_⟩) (by assumption) ?_
          rotate_left
          · intro w hSw
            try dsimp only at hSw
            go_simp
            try with_reducible rfl
          try simp only [Act.put, List.setIfInBounds_toArray, List.set_cons_zero, List.set_cons_succ]
          refine wpAnyH_ready (rs := [6]) (by kernel_rfl) (by simp) ?_
          refine AllReadyH.cons (o := { dst := some 91, op := Op.call { callee := Callee.value (Operand.func 26), args := #[Operand.tmp 85, Operand.tmp 86, Operand.tmp 90], argTypes := #[24, 22, 5] }, type := 5, pos := _, after := #[{ on := 0, ground := Ground.data }, { on := 1, ground := Ground.data }, { on := 5, ground := Ground.data }], guard := none }) rfl (fun K hK => ?_) AllReadyH.nil
          go_simp
          refine (at_any wr.drew _ (HPX.out.1.2.1.keep (nextN (Mem.start wr) 1)) A5 P5 _ c5 rfl (by have := (HPX.out.2 ⟨A5, P5, c5, 16⟩ (by simp)).2.2; dsimp only at this; omega) ((HPX.out.2 ⟨A5, P5, c5, 16⟩ (by simp)).1.keep (nextN (Mem.start wr) 1)) _ x rfl).mono ?_
          rintro e w8 ⟨rfl, hF8, hf8⟩
          rw [HVQ.out]
          have H8 := Lib.hid (And.intro hF8 hf8)
          clear hF8 hf8
          try dsimp only
          refine hK.out _ _ ?_ (fun hHeld => ?_)
          · try dsimp only
            exact ⟨cellFr H8.out.2 hHeld.1 (fun e => HNB.out (by injection e with e; exact e.symm)), cellFr H8.out.2 hHeld.2 (fun e => HNC.out (by injection e with e; exact e.symm))⟩
          clear hK K
          try simp only [Act.put, List.setIfInBounds_toArray, List.set_cons_zero, List.set_cons_succ]
          refine wpAnyH_take (i := 11) (oi := { dst := some 96, op := Op.binOp BinOp.neq 5 (Operand.tmp 91) (Operand.tmp 95) 5, type := 4, pos := _, after := #[{ on := 6, ground := Ground.data }, { on := 10, ground := Ground.data }], guard := none }) (v := ?_) rfl (by kernel_rfl) (by kernel_rfl) (by kernel_rfl) (fun _ _ _ h => h) (Or.inl ⟨by rfl, ?_⟩) (by assumption) ?_
          rotate_left
          · intro w hSw
            try dsimp only at hSw
            go_simp
            try with_reducible rfl
          try simp only [Act.put, List.setIfInBounds_toArray, List.set_cons_zero, List.set_cons_succ]
          refine wpAnyH_done (by kernel_rfl) ?_ _
          refine NoPanic.normal ?_
          have hyy : ((y.toNat : Int) != (y.toNat : Int)) = false := by simp
          go_wp2_with fail
          go_roundw
          case rel => exact ⟨j + 1, rfl, HJ.out, PS.fr (PS.keep HPX.out (nextN (Mem.start wr) 1)) (H8.out.1 _ rfl) (H8.out.2.mono fun k _ hk => by injection hk with hk; exact hk.symm)⟩
          case measure => simp [intOf]; have := HJ.out; omega
        · obtain rfl : j = b.length := by omega
          have HDQ := Lib.hid (show len P5 ≤ b.length from HQ.out.1.1)
          clear hjb hj
          go_wp2_with fail
          refine (degR HPX.out (a := P5) (na := 16) (by simp) _ rfl (by decide)).mono ?_
          rintro e w6 ⟨rfl, h⟩
          have hq9 : (len P5 : Int) - 1 < (b.length : Int) := by have := HDQ.out; omega
          have H6 := Lib.hid h
          clear h
          by_cases hb0 : b.length = 0
          · have hb0i : ((b.length : Int) == 0) = true := by simp [hb0]
            clear hb0
            go_wp2_with fail
            refine (works_any _).mono ?_
            rintro e w7 ⟨rfl, hb⟩
            have H7 := Lib.hid (PS.keep H6.out hb)
            clear hb
            go_wp2_with fail
            go_ret
            exact ⟨rfl, PS.below H7.out⟩
          · have hb0i : ((b.length : Int) == 0) = false := by simpa using hb0
            clear hb0
            have HSB := Lib.hid (only_same HG1.out.2 HG2.out.1 HP.out.1 HP.out.2 HQ.out.1 HQ.out.2)
            go_wp2_with fail
            refine (sameR H6.out (a := P2) (na := 16) (by simp) _ (by first | rfl | simp) (b := P5) (nb := 16) (by simp) _ (by first | rfl | simp) (sameB (b.map (ev a)) c) HSB.out).mono ?_
            rintro e w' ⟨rfl, rfl⟩
            go_wp2_with fail
            refine (sameR H6.out (a := b.map (ev a)) (na := 16) (by simp) _ (by first | rfl | simp) (b := c) (nb := 16) (by simp) _ (by first | rfl | simp) (sameB (b.map (ev a)) c) rfl).mono ?_
            rintro e w' ⟨rfl, rfl⟩
            generalize sameB (b.map (ev a)) c = sb at *
            have hsb : (sb == sb) = true := by cases sb <;> rfl
            go_wp2_with fail
            refine (works_any _).mono ?_
            rintro e w7 ⟨rfl, hb⟩
            have H7 := Lib.hid (PS.keep H6.out hb)
            clear hb
            go_wp2_with fail
            go_ret
            exact ⟨rfl, PS.below H7.out⟩
theorem only_any (w : World) (A : Option Addr) (a : List UInt8) (ca : Nat) (hca : a.length ≤ ca) (hA : Bytes w w.heap.size A a) (B : Option Addr) (b : List UInt8) (cb : Nat) (hcb : b.length ≤ cb) (hB : Bytes w w.heap.size B b) (C : Option Addr) (c : List UInt8) (cc : Nat) (hcc : c.length ≤ cc) (hC : Bytes w w.heap.size C c) :
    Calls Try.prog 7 #[.slice A a.length ca, .slice B b.length cb, .slice C c.length cc] w fun e w' => e = .returned (.bool true) ∧ Below w.heap.size w w' := by
  by_cases hs0 : a.length ≤ 16
  · skip
    by_cases hs1 : b.length ≤ 16
    · skip
      by_cases hs2 : c.length ≤ 16
      · skip
        by_cases hn : b.Nodup
        · by_cases hg : Good b c
          · by_cases hsm : len a ≤ b.length
            · exact only_21 w A a ca hca hA B b cb hcb hB C c cc hcc hC ⟨hs0, hs1, hs2⟩ hn hg hsm
            · exact only_20 w A a ca hca hA B b cb hcb hB C c cc hcc hC ⟨hs0, hs1, hs2⟩ hn hg hsm
          · by_cases hsm : len a ≤ b.length
            · exact only_11 w A a ca hca hA B b cb hcb hB C c cc hcc hC ⟨hs0, hs1, hs2⟩ hn hg hsm
            · exact only_10 w A a ca hca hA B b cb hcb hB C c cc hcc hC ⟨hs0, hs1, hs2⟩ hn hg hsm
        · exact only_0 w A a ca hca hA B b cb hcb hB C c cc hcc hC ⟨hs0, hs1, hs2⟩ hn
      · exact polyonly_big2 w A a ca hca hA B b cb hcb hB C c cc hcc hC (by omega)
    · exact polyonly_big1 w A a ca hca hA B b cb hcb hB C c cc hcc hC (by omega)
  · exact polyonly_big0 w A a ca hca hA B b cb hcb hB C c cc hcc hC (by omega)
theorem only_law (w : World) (A : Option Addr) (a : List UInt8) (ca : Nat) (hca : a.length ≤ ca) (_ : ca ≤ maxLen) (hA : Bytes w w.heap.size A a) (B : Option Addr) (b : List UInt8) (cb : Nat) (hcb : b.length ≤ cb) (_ : cb ≤ maxLen) (hB : Bytes w w.heap.size B b) (C : Option Addr) (c : List UInt8) (cc : Nat) (hcc : c.length ≤ cc) (_ : cc ≤ maxLen) (hC : Bytes w w.heap.size C c) :
    Calls Try.prog 7 #[.slice A a.length ca, .slice B b.length cb, .slice C c.length cc] w fun e w' => e = .returned (.bool true) ∧ Below w.heap.size w w' := by
  exact only_any w A a ca hca hA B b cb hcb hB C c cc hcc hC
end Go.Proofs.Ytciilojlfaihjaa.PlW
