/- The document's polynomial through some values. -/
import Derived.Test.YtciilojlfaihjaaPlRefE
namespace Go.Proofs.Ytciilojlfaihjaa.PlW
open Go.RowKit Mem Gf FdW Pl Rng
set_option linter.unusedVariables false

/-- What the document's Through leaves. -/
def RThrF (w : World) (xs ys : List UInt8) (e : Ending) (w' : World) : Prop :=
  ((Good xs ys ∧ ∃ P A c, ThrOk xs ys P ∧ trim P = P ∧ e = .returned (.tuple #[.slice A P.length c, .int .i64 0]) ∧ Mem.Own w' w.heap.size 5 A c (P.map u8v)) ∨ (¬ Good xs ys ∧ e = .returned (.tuple #[.slice none 0 0, .int .i64 2]))) ∧ Below w.heap.size w w'
/-- The state of the loop. -/
def LS (xs ys : List UInt8) (i : Nat) (out : List UInt8) : Prop :=
  trim out = out ∧ len out ≤ xs.length ∧ (∀ j (h : j < xs.length) (h2 : j < ys.length), ev out xs[j] = if j < i then ys[j] else 0) ∧ (∀ j (h : j < i) (h1 : j < xs.length), xs[j] ∉ others xs j)
theorem LS.start (xs ys : List UInt8) : LS xs ys 0 [] := ⟨rfl, Nat.zero_le _, fun j h h2 => by rw [if_neg (by omega)]; rfl, fun j h => by omega⟩
theorem LS.step {xs ys : List UInt8} {i : Nat} {out : List UInt8} (h : LS xs ys i out) (hi : i < xs.length) (hy : xs.length = ys.length) (hx : ev (trim (rootsP (others xs i))) (cf xs i) ≠ 0) :
    LS xs ys (i + 1) (trim (add out (trim (mulP (trim (rootsP (others xs i))) [div (cf ys i) (ev (trim (rootsP (others xs i))) (cf xs i))])))) := by
  obtain ⟨h1, h2, h3, h4⟩ := h
  have ex : cf xs i = xs[i] := cf_lt hi
  have ey : cf ys i = ys[i]'(by omega) := cf_lt (by omega)
  rw [ex] at hx
  rw [ex, ey]
  obtain ⟨n1, n2⟩ := lagrange hi hy (trim_eqv (rootsP (others xs i))) h2 (fun j hj => h3 j hj (by omega)) hx
  have hev := (trim_eqv (add out (trim (mulP (trim (rootsP (others xs i))) [div (ys[i]'(by omega)) (ev (trim (rootsP (others xs i))) xs[i])])))).trans (add_congr (Eqv.refl out) (trim_eqv _))
  refine ⟨trim_trim _, by rw [len_congr hev]; exact n1, fun j hj _ => by rw [ev_congr hev]; exact n2 j hj, fun j hj hjl => ?_⟩
  by_cases e : j = i
  · subst e
    intro hm
    apply hx
    rw [ev_congr (trim_eqv _), (rootsP_facts _).2]; exact hm
  · exact h4 j (by omega) hjl
theorem LS.bad {xs ys : List UInt8} {i : Nat} (hi : i < xs.length) (hx : ev (trim (rootsP (others xs i))) (cf xs i) = 0) : ¬ Good xs ys := fun hg => by
  rw [ev_congr (trim_eqv _), (rootsP_facts _).2, cf_lt hi] at hx
  exact nodup_others hg.2 hi hx
theorem LS.done {xs ys out : List UInt8} (h : LS xs ys xs.length out) (hy : xs.length = ys.length) : Good xs ys ∧ ThrOk xs ys out ∧ trim out = out :=
  ⟨⟨hy, nodup_of_take fun i hi hm => h.2.2.2 i hi hi (take_others hm)⟩, ⟨h.2.1, fun i hi k => by have := h.2.2.1 i hi k; rwa [if_pos hi] at this⟩, h.1⟩
theorem others_map (xs : List UInt8) (i : Nat) : (others xs i).map u8v = (xs.take i).map u8v ++ (xs.drop (i + 1)).map u8v := by rw [others, List.map_append]

set_option maxRecDepth 100000 in
set_option maxHeartbeats 4000000 in
theorem rpThr_any (w : World) (A : Option Addr) (xs : List UInt8) (n0 ca : Nat) (hn0 : n0 = xs.length) (B : Option Addr) (ys : List UInt8) (m0 cb : Nat) (hm0 : m0 = ys.length) (hlx : (xs.length : Int) ≤ 300) (hca : xs.length ≤ ca) (hA : Bytes w w.heap.size A xs) (hB : Bytes w w.heap.size B ys) :
    Calls Try.prog 25 #[.slice A n0 ca, .slice B m0 cb] w (RThrF w xs ys) := by
  obtain ⟨i0, hi0, hz0, hz1, hz2⟩ := info_parts u8info
  subst hn0; subst hm0
  have HA := Lib.hid hA
  have HB := Lib.hid hB
  clear hA hB
  by_cases hxy : xs.length = ys.length
  · have hne : ((xs.length : Int) != (ys.length : Int)) = false := by simp [hxy]
    have hlen : ys.length = xs.length := hxy.symm
    have HXY := Lib.hid hxy
    rw [hlen] at hne ⊢
    clear hxy hlen
    go_enter Try.func25, Try.ntmps25
    go_wp2_with fail
    go_loopw [6, 7] (fun s i wr => ∃ (j : Nat) (O : Option Addr) (co : Nat) (out : List UInt8), i = .int .i64 (j : Int) ∧ s = .slice O out.length co ∧ j ≤ xs.length ∧ LS xs ys j out ∧ Mem.Own wr w.heap.size 5 O co (out.map u8v) ∧ Below w.heap.size w wr) (fun _ i _ => xs.length - (intOf i).toNat)
    case atStart => exact ⟨0, none, 0, [], rfl, rfl, Nat.zero_le _, LS.start _ _, Own.nil, Below.refl _ _⟩
    case round =>
      obtain ⟨j, O, co, out, rfl, rfl, hj, hls, ho, hb⟩ := hrel
      by_cases hja : j < xs.length
      · have HR := Lib.hid (And.intro ho hb)
        have HT := Lib.hid hls
        have hlo : out.length ≤ xs.length := by rw [← hls.1]; exact hls.2.1
        clear ho hb hls
        have hIA := HA.out.below HR.out.2
        obtain ⟨q1, off1, hA1, hq1, hcx⟩ := hIA.at_ (k := j) hja
        subst hA1
        obtain ⟨q2, off2, hB1, hq2, hcy⟩ := (HB.out.below HR.out.2).at_ (k := j) (by rw [← HXY.out]; exact hja)
        subst hB1
        rw [← cf_lt hja] at hcx
        rw [← cf_lt (show j < ys.length from by rw [← HXY.out]; exact hja)] at hcy
        have hji : (j : Int) < (xs.length : Int) := by omega
        have hjn : j + 1 ≤ xs.length := hja
        have HC := Lib.hid (And.intro hcx hcy)
        have HIA := Lib.hid hIA
        clear hcx hcy hIA
        have HOL := Lib.hid (others_len hja)
        have HOM := Lib.hid (others_map xs j)
        have hcc : (ca = j + 1 ∧ xs.drop (j + 1) = []) ∨ ca ≠ j + 1 := by
          by_cases h : ca = j + 1
          · exact .inl ⟨h, List.drop_eq_nil_of_le (by omega)⟩
          · exact .inr h
        rcases hcc with ⟨hcap, hdr⟩ | hcap
        · have hn1 : xs.length = j + 1 := by omega
          subst hcap
          have HN1 := Lib.hid hn1
          clear hn1
          rw [hdr] at HOM
          have HDR := Lib.hid hdr
          clear hdr
          go_wp2_with (first
            | ((with_reducible show wpList _ _ _ ((⟨some 27, _, _, _, _, _⟩ : Oper) :: _) _ _); refine wpList_app _ rfl _ _ _ rfl wr.heap.size 5 i0 _ 1 Try.underlying22 hi0 hz0 hz1 hz2 rfl none 0 0 [] rfl rfl Own.nil wr.heap.size (some ⟨q1, off1, none⟩) _ j ((xs.take j).map u8v) rfl (by simp <;> omega) ((HIA.out.take j).up HR.out.2.size) u8v_one (by simp [maxLen] <;> omega) (by simp <;> omega) (by simp) j (by simp) ?_; intro A1 c1 w2 ho1 hb1 _ _; have H1 := Lib.hid (And.intro ho1 hb1); clear ho1 hb1)
            | ((with_reducible show wpList _ _ _ ((⟨some 33, _, _, _, _, _⟩ : Oper) :: _) _ _); refine wpList_app _ rfl _ _ _ rfl wr.heap.size 5 i0 _ 1 Try.underlying22 hi0 hz0 hz1 hz2 rfl A1 c1 j ([] ++ (xs.take j).map u8v) rfl (by have hn1 := HN1.out; simp <;> omega) H1.out.1 wr.heap.size _ _ _ [] rfl (by have hn1 := HN1.out; simp <;> omega) Cells.nil (by intro u hu; first | exact u8v_one u hu | simp at hu) (by have hn1 := HN1.out; simp [maxLen] <;> omega) (by have hn1 := HN1.out; simp <;> omega) (by have := H1.out.2.size; omega) (xs.length - 1) (by have hn1 := HN1.out; omega) ?_; intro A2 c2 w3 ho2 hb2 _ _; have H2 := Lib.hid (And.intro ho2 hb2); clear ho2 hb2))
          have HO3 := Lib.hid (show Mem.Own w3 wr.heap.size 5 A2 c2 ((others xs j).map u8v) from by rw [HOM.out]; simpa using H2.out.1)
          refine (rpRoots_any w3 A2 (others xs j) (xs.length - 1) c2 HOL.out.symm (by rw [HOL.out]; omega) HO3.out.bytes).mono ?_
          rintro e w4 ⟨A4, c4, rfl, ho4, hb4⟩
          have H4 := Lib.hid (And.intro ho4 hb4)
          clear ho4 hb4
          obtain ⟨l, hl⟩ : ∃ l, trim (rootsP (others xs j)) = l := ⟨_, rfl⟩
          have HLL := Lib.hid (show l.length = xs.length from by rw [← hl]; have h1 := rootsP_len (others xs j); have h2 := others_len hja; have h3 : (trim (rootsP (others xs j))).length = len (rootsP (others xs j)) := rfl; omega)
          rw [hl] at H4 ⊢
          have HL4 := Lib.hid hl
          have HB4 := Lib.hid (show Below wr.heap.size wr w4 from (H1.out.2.trans H2.out.2).trans (H4.out.2.mono (Nat.le_trans H1.out.2.size H2.out.2.size)))
          have hcx : w4.cell? ⟨q1, off1 + j, none⟩ = some (.int .u8 ((cf xs j).toNat : Int)) := (HB4.out.cell (alive HC.out.1)).trans HC.out.1
          have hcy : w4.cell? ⟨q2, off2 + j, none⟩ = some (.int .u8 ((cf ys j).toNat : Int)) := (HB4.out.cell (alive HC.out.2)).trans HC.out.2
          obtain ⟨x, hx⟩ : ∃ x, cf xs j = x := ⟨_, rfl⟩
          obtain ⟨y, hy⟩ : ∃ y, cf ys j = y := ⟨_, rfl⟩
          rw [hx] at hcx
          rw [hy] at hcy
          have HXV := Lib.hid (And.intro hx hy)
          have HJ := Lib.hid hja
          clear hl hx hy
          go_wp2_with fail
          --HELD
          by_cases hb0 : ev l x = 0
          · have HBD := Lib.hid (LS.bad (ys := ys) HJ.out (by rw [HL4.out, HXV.out.1]; exact hb0))
            have hnz : nz (ev l x) = false := by rw [hb0]; rfl
            clear hb0
            refine wp_region_noPanic ?_
            refine wp_region_held_drew (S := fun w' => w'.cell? ⟨q2, off2 + j, none⟩ = some (.int .u8 (y.toNat : Int)) ∧ w'.cell? ⟨q1, off1 + j, none⟩ = some (.int .u8 (x.toNat : Int))) (by kernel_rfl) ?hs0 ?rg0
            case hs0 =>
              exact ⟨hcy, hcx⟩
            case rg0 =>
            intro hHeld
            refine wpAnyH_take (i := 0) (oi := { dst := some 37, op := Op.move (Operand.tmp 1), type := 22, pos := _, after := #[], guard := none }) (v := ?_) rfl (by kernel_rfl) (by kernel_rfl) (by kernel_rfl) (fun _ _ _ h => h) (Or.inl ⟨by rfl, ?_⟩) (by assumption) ?_
            rotate_left
            · intro w hSw
              try dsimp only at hSw
              go_simp
              try with_reducible rfl
            try simp only [Act.put, List.setIfInBounds_toArray, List.set_cons_zero, List.set_cons_succ]
            refine wpAnyH_take (i := 1) (oi := { dst := some 38, op := Op.move (Operand.tmp 7), type := 3, pos := _, after := #[], guard := none }) (v := ?_) rfl (by kernel_rfl) (by kernel_rfl) (by kernel_rfl) (fun _ _ _ h => h) (Or.inl ⟨by rfl, ?_⟩) (by assumption) ?_
            rotate_left
            · intro w hSw
              try dsimp only at hSw
              go_simp
              try with_reducible rfl
            try simp only [Act.put, List.setIfInBounds_toArray, List.set_cons_zero, List.set_cons_succ]
            refine wpAnyH_take (i := 2) (oi := { dst := some 39, op := Op.indexAddr 22 (Operand.tmp 37) (Operand.tmp 38), type := 0, pos := _, after := #[{ on := 0, ground := Ground.data }, { on := 1, ground := Ground.data }], guard := none }) (v := ?_) rfl (by kernel_rfl) (by kernel_rfl) (by kernel_rfl) (fun _ _ _ h => h) (Or.inl ⟨by rfl, ?_⟩) (by assumption) ?_
            rotate_left
            · intro w hSw
              try dsimp only at hSw
              go_simp
              try with_reducible rfl
            try simp only [Act.put, List.setIfInBounds_toArray, List.set_cons_zero, List.set_cons_succ]
            refine wpAnyH_take (i := 3) (oi := { dst := some 40, op := Op.load 5 (Operand.tmp 39), type := 5, pos := _, after := #[{ on := 2, ground := Ground.data }], guard := none }) (v := ?_) rfl (by kernel_rfl) (by kernel_rfl) (by kernel_rfl) (fun _ _ _ h => h) (Or.inl ⟨by rfl, ?_⟩) (by assumption) ?_
            rotate_left
            · intro w hSw
              try dsimp only at hSw
              go_simp
              try with_reducible rfl
            try simp only [Act.put, List.setIfInBounds_toArray, List.set_cons_zero, List.set_cons_succ]
            refine wpAnyH_take (i := 4) (oi := { dst := some 41, op := Op.move (Operand.tmp 9), type := 22, pos := _, after := #[], guard := none }) (v := ?_) rfl (by kernel_rfl) (by kernel_rfl) (by kernel_rfl) (fun _ _ _ h => h) (Or.inl ⟨by rfl, ?_⟩) (by assumption) ?_
            rotate_left
            · intro w hSw
              try dsimp only at hSw
              go_simp
              try with_reducible rfl
            try simp only [Act.put, List.setIfInBounds_toArray, List.set_cons_zero, List.set_cons_succ]
            refine wpAnyH_take (i := 5) (oi := { dst := some 42, op := Op.move (Operand.tmp 0), type := 22, pos := _, after := #[], guard := none }) (v := ?_) rfl (by kernel_rfl) (by kernel_rfl) (by kernel_rfl) (fun _ _ _ h => h) (Or.inl ⟨by rfl, ?_⟩) (by assumption) ?_
            rotate_left
            · intro w hSw
              try dsimp only at hSw
              go_simp
              try with_reducible rfl
            try simp only [Act.put, List.setIfInBounds_toArray, List.set_cons_zero, List.set_cons_succ]
            refine wpAnyH_take (i := 6) (oi := { dst := some 43, op := Op.move (Operand.tmp 7), type := 3, pos := _, after := #[], guard := none }) (v := ?_) rfl (by kernel_rfl) (by kernel_rfl) (by kernel_rfl) (fun _ _ _ h => h) (Or.inl ⟨by rfl, ?_⟩) (by assumption) ?_
            rotate_left
            · intro w hSw
              try dsimp only at hSw
              go_simp
              try with_reducible rfl
            try simp only [Act.put, List.setIfInBounds_toArray, List.set_cons_zero, List.set_cons_succ]
            refine wpAnyH_take (i := 7) (oi := { dst := some 44, op := Op.indexAddr 22 (Operand.tmp 42) (Operand.tmp 43), type := 0, pos := _, after := #[{ on := 5, ground := Ground.data }, { on := 6, ground := Ground.data }], guard := none }) (v := ?_) rfl (by kernel_rfl) (by kernel_rfl) (by kernel_rfl) (fun _ _ _ h => h) (Or.inl ⟨by rfl, ?_⟩) (by assumption) ?_
            rotate_left
            · intro w hSw
              try dsimp only at hSw
              go_simp
              try with_reducible rfl
            try simp only [Act.put, List.setIfInBounds_toArray, List.set_cons_zero, List.set_cons_succ]
            refine wpAnyH_take (i := 8) (oi := { dst := some 45, op := Op.load 5 (Operand.tmp 44), type := 5, pos := _, after := #[{ on := 7, ground := Ground.data }], guard := none }) (v := ?_) rfl (by kernel_rfl) (by kernel_rfl) (by kernel_rfl) (fun _ _ _ h => h) (Or.inl ⟨by rfl, ?_⟩) (by assumption) ?_
            rotate_left
            · intro w hSw
              try dsimp only at hSw
              go_simp
              try with_reducible rfl
            try simp only [Act.put, List.setIfInBounds_toArray, List.set_cons_zero, List.set_cons_succ]
            refine wpAnyH_ready (rs := [9]) (by kernel_rfl) (by simp) ?_
            refine AllReadyH.cons (o := { dst := some 46, op := Op.call { callee := Callee.value (Operand.func 27), args := #[Operand.tmp 41, Operand.tmp 45], argTypes := #[22, 5] }, type := 5, pos := _, after := #[{ on := 4, ground := Ground.data }, { on := 8, ground := Ground.data }], guard := none }) rfl (fun K hK => ?_) AllReadyH.nil
            go_simp
            refine (rpAt_any w4.drew A4 l _ c4 rfl (by have := HLL.out; omega) (H4.out.1.drewN 1).bytes _ x rfl).mono ?_
            rintro e w5 ⟨rfl, rfl⟩
            try dsimp only
            refine hK.out _ _ ?_ (fun hHeld => ?_)
            · try dsimp only
              exact hHeld
            clear hK K
            try simp only [Act.put, List.setIfInBounds_toArray, List.set_cons_zero, List.set_cons_succ]
            refine wpAnyH_ready (rs := [10]) (by kernel_rfl) (by simp) ?_
            refine AllReadyH.cons (o := { dst := some 47, op := Op.call { callee := Callee.value (Operand.func 35), args := #[Operand.tmp 40, Operand.tmp 46], argTypes := #[5, 5] }, type := 65, pos := _, after := #[{ on := 3, ground := Ground.data }, { on := 9, ground := Ground.data }, { on := 9, ground := Ground.chain }], guard := none }) rfl (fun K hK => ?_) AllReadyH.nil
            go_simp
            refine (refDiv_any _ _ y (ev l x) rfl rfl _).mono ?_
            rintro e w5 ⟨rfl, rfl⟩
            try dsimp only
            refine hK.out _ _ ?_ (fun hHeld => ?_)
            · try dsimp only
              exact hHeld
            clear hK K
            try simp only [Act.put, List.setIfInBounds_toArray, List.set_cons_zero, List.set_cons_succ]
            refine wpAnyH_take (i := 11) (oi := { dst := some 36, op := Op.move (Operand.tmp 47), type := 65, pos := _, after := #[{ on := 10, ground := Ground.data }], guard := none }) (v := ?_) rfl (by kernel_rfl) (by kernel_rfl) (by kernel_rfl) (fun _ _ _ h => h) (Or.inl ⟨by rfl, ?_⟩) (by assumption) ?_
            rotate_left
            · intro w hSw
              try dsimp only at hSw
              go_simp
              try with_reducible rfl
            try simp only [Act.put, List.setIfInBounds_toArray, List.set_cons_zero, List.set_cons_succ]
            refine wpAnyH_take (i := 12) (oi := { dst := some 48, op := Op.extract (Operand.tmp 36) 0, type := 5, pos := _, after := #[{ on := 11, ground := Ground.data }], guard := none }) (v := ?_) rfl (by kernel_rfl) (by kernel_rfl) (by kernel_rfl) (fun _ _ _ h => h) (Or.inl ⟨by rfl, ?_⟩) (by assumption) ?_
            rotate_left
            · intro w hSw
              try dsimp only at hSw
              go_simp
              try with_reducible rfl
            try simp only [Act.put, List.setIfInBounds_toArray, List.set_cons_zero, List.set_cons_succ]
            refine wpAnyH_take (i := 13) (oi := { dst := some 49, op := Op.extract (Operand.tmp 36) 1, type := 4, pos := _, after := #[{ on := 11, ground := Ground.data }, { on := 14, ground := Ground.gcOnly Departure.lateStores }], guard := none }) (v := ?_) rfl (by kernel_rfl) (by kernel_rfl) (by kernel_rfl) (fun _ _ _ h => h) (Or.inl ⟨by rfl, ?_⟩) (by assumption) ?_
            rotate_left
            · intro w hSw
              try dsimp only at hSw
              go_simp
              try with_reducible rfl
            try simp only [Act.put, List.setIfInBounds_toArray, List.set_cons_zero, List.set_cons_succ]
            refine wpAnyH_take (i := 14) (oi := { dst := some 10, op := Op.assign (Operand.tmp 48), type := 5, pos := _, after := #[{ on := 12, ground := Ground.data }, { on := 10, ground := Ground.chain }, { on := 0, ground := Ground.phase }, { on := 1, ground := Ground.phase }, { on := 2, ground := Ground.phase }, { on := 3, ground := Ground.phase }, { on := 4, ground := Ground.phase }, { on := 5, ground := Ground.phase }, { on := 6, ground := Ground.phase }, { on := 7, ground := Ground.phase }, { on := 8, ground := Ground.phase }, { on := 9, ground := Ground.phase }, { on := 10, ground := Ground.phase }, { on := 11, ground := Ground.phase }, { on := 12, ground := Ground.phase }, { on := 13, ground := Ground.textOnly Departure.lateStores }], guard := none }) (v := ?_) rfl (by kernel_rfl) (by kernel_rfl) (by kernel_rfl) (fun _ _ _ h => h) (Or.inl ⟨by rfl, ?_⟩) (by assumption) ?_
            rotate_left
            · intro w hSw
              try dsimp only at hSw
              go_simp
              try with_reducible rfl
            try simp only [Act.put, List.setIfInBounds_toArray, List.set_cons_zero, List.set_cons_succ]
            refine wpAnyH_take (i := 15) (oi := { dst := some 11, op := Op.assign (Operand.tmp 49), type := 4, pos := _, after := #[{ on := 13, ground := Ground.data }, { on := 14, ground := Ground.chain }, { on := 0, ground := Ground.phase }, { on := 1, ground := Ground.phase }, { on := 2, ground := Ground.phase }, { on := 3, ground := Ground.phase }, { on := 4, ground := Ground.phase }, { on := 5, ground := Ground.phase }, { on := 6, ground := Ground.phase }, { on := 7, ground := Ground.phase }, { on := 8, ground := Ground.phase }, { on := 9, ground := Ground.phase }, { on := 10, ground := Ground.phase }, { on := 11, ground := Ground.phase }, { on := 12, ground := Ground.phase }, { on := 13, ground := Ground.phase }, { on := 14, ground := Ground.phase }], guard := none }) (v := ?_) rfl (by kernel_rfl) (by kernel_rfl) (by kernel_rfl) (fun _ _ _ h => h) (Or.inl ⟨by rfl, ?_⟩) (by assumption) ?_
            rotate_left
            · intro w hSw
              try dsimp only at hSw
              go_simp
              try with_reducible rfl
            try simp only [Act.put, List.setIfInBounds_toArray, List.set_cons_zero, List.set_cons_succ]
            refine wpAnyH_done (by kernel_rfl) ?_ _
            refine NoPanic.normal ?_
            generalize ev l x = el at *
            go_wp2_with fail
            go_ret2
            exact ⟨.inr ⟨HBD.out, rfl⟩, HR.out.2.trans ((HB4.out.trans ((nextN (Mem.start w4) 1).mono HB4.out.size)).mono HR.out.2.size)⟩
          · have HST := Lib.hid (LS.step HT.out HJ.out HXY.out (by rw [HL4.out, HXV.out.1]; exact hb0))
            rw [HL4.out, HXV.out.1, HXV.out.2] at HST
            have hnz : nz (ev l x) = true := nz_ne hb0
            clear hb0
            refine wp_region_noPanic ?_
            refine wp_region_held_drew (S := fun w' => w'.cell? ⟨q2, off2 + j, none⟩ = some (.int .u8 (y.toNat : Int)) ∧ w'.cell? ⟨q1, off1 + j, none⟩ = some (.int .u8 (x.toNat : Int))) (by kernel_rfl) ?hs0 ?rg0
            case hs0 =>
              exact ⟨hcy, hcx⟩
            case rg0 =>
            intro hHeld
            refine wpAnyH_take (i := 0) (oi := { dst := some 37, op := Op.move (Operand.tmp 1), type := 22, pos := _, after := #[], guard := none }) (v := ?_) rfl (by kernel_rfl) (by kernel_rfl) (by kernel_rfl) (fun _ _ _ h => h) (Or.inl ⟨by rfl, ?_⟩) (by assumption) ?_
            rotate_left
            · intro w hSw
              try dsimp only at hSw
              go_simp
              try with_reducible rfl
            try simp only [Act.put, List.setIfInBounds_toArray, List.set_cons_zero, List.set_cons_succ]
            refine wpAnyH_take (i := 1) (oi := { dst := some 38, op := Op.move (Operand.tmp 7), type := 3, pos := _, after := #[], guard := none }) (v := ?_) rfl (by kernel_rfl) (by kernel_rfl) (by kernel_rfl) (fun _ _ _ h => h) (Or.inl ⟨by rfl, ?_⟩) (by assumption) ?_
            rotate_left
            · intro w hSw
              try dsimp only at hSw
              go_simp
              try with_reducible rfl
            try simp only [Act.put, List.setIfInBounds_toArray, List.set_cons_zero, List.set_cons_succ]
            refine wpAnyH_take (i := 2) (oi := { dst := some 39, op := Op.indexAddr 22 (Operand.tmp 37) (Operand.tmp 38), type := 0, pos := _, after := #[{ on := 0, ground := Ground.data }, { on := 1, ground := Ground.data }], guard := none }) (v := ?_) rfl (by kernel_rfl) (by kernel_rfl) (by kernel_rfl) (fun _ _ _ h => h) (Or.inl ⟨by rfl, ?_⟩) (by assumption) ?_
            rotate_left
            · intro w hSw
              try dsimp only at hSw
              go_simp
              try with_reducible rfl
            try simp only [Act.put, List.setIfInBounds_toArray, List.set_cons_zero, List.set_cons_succ]
            refine wpAnyH_take (i := 3) (oi := { dst := some 40, op := Op.load 5 (Operand.tmp 39), type := 5, pos := _, after := #[{ on := 2, ground := Ground.data }], guard := none }) (v := ?_) rfl (by kernel_rfl) (by kernel_rfl) (by kernel_rfl) (fun _ _ _ h => h) (Or.inl ⟨by rfl, ?_⟩) (by assumption) ?_
            rotate_left
            · intro w hSw
              try dsimp only at hSw
              go_simp
              try with_reducible rfl
            try simp only [Act.put, List.setIfInBounds_toArray, List.set_cons_zero, List.set_cons_succ]
            refine wpAnyH_take (i := 4) (oi := { dst := some 41, op := Op.move (Operand.tmp 9), type := 22, pos := _, after := #[], guard := none }) (v := ?_) rfl (by kernel_rfl) (by kernel_rfl) (by kernel_rfl) (fun _ _ _ h => h) (Or.inl ⟨by rfl, ?_⟩) (by assumption) ?_
            rotate_left
            · intro w hSw
              try dsimp only at hSw
              go_simp
              try with_reducible rfl
            try simp only [Act.put, List.setIfInBounds_toArray, List.set_cons_zero, List.set_cons_succ]
            refine wpAnyH_take (i := 5) (oi := { dst := some 42, op := Op.move (Operand.tmp 0), type := 22, pos := _, after := #[], guard := none }) (v := ?_) rfl (by kernel_rfl) (by kernel_rfl) (by kernel_rfl) (fun _ _ _ h => h) (Or.inl ⟨by rfl, ?_⟩) (by assumption) ?_
            rotate_left
            · intro w hSw
              try dsimp only at hSw
              go_simp
              try with_reducible rfl
            try simp only [Act.put, List.setIfInBounds_toArray, List.set_cons_zero, List.set_cons_succ]
            refine wpAnyH_take (i := 6) (oi := { dst := some 43, op := Op.move (Operand.tmp 7), type := 3, pos := _, after := #[], guard := none }) (v := ?_) rfl (by kernel_rfl) (by kernel_rfl) (by kernel_rfl) (fun _ _ _ h => h) (Or.inl ⟨by rfl, ?_⟩) (by assumption) ?_
            rotate_left
            · intro w hSw
              try dsimp only at hSw
              go_simp
              try with_reducible rfl
            try simp only [Act.put, List.setIfInBounds_toArray, List.set_cons_zero, List.set_cons_succ]
            refine wpAnyH_take (i := 7) (oi := { dst := some 44, op := Op.indexAddr 22 (Operand.tmp 42) (Operand.tmp 43), type := 0, pos := _, after := #[{ on := 5, ground := Ground.data }, { on := 6, ground := Ground.data }], guard := none }) (v := ?_) rfl (by kernel_rfl) (by kernel_rfl) (by kernel_rfl) (fun _ _ _ h => h) (Or.inl ⟨by rfl, ?_⟩) (by assumption) ?_
            rotate_left
            · intro w hSw
              try dsimp only at hSw
              go_simp
              try with_reducible rfl
            try simp only [Act.put, List.setIfInBounds_toArray, List.set_cons_zero, List.set_cons_succ]
            refine wpAnyH_take (i := 8) (oi := { dst := some 45, op := Op.load 5 (Operand.tmp 44), type := 5, pos := _, after := #[{ on := 7, ground := Ground.data }], guard := none }) (v := ?_) rfl (by kernel_rfl) (by kernel_rfl) (by kernel_rfl) (fun _ _ _ h => h) (Or.inl ⟨by rfl, ?_⟩) (by assumption) ?_
            rotate_left
            · intro w hSw
              try dsimp only at hSw
              go_simp
              try with_reducible rfl
            try simp only [Act.put, List.setIfInBounds_toArray, List.set_cons_zero, List.set_cons_succ]
            refine wpAnyH_ready (rs := [9]) (by kernel_rfl) (by simp) ?_
            refine AllReadyH.cons (o := { dst := some 46, op := Op.call { callee := Callee.value (Operand.func 27), args := #[Operand.tmp 41, Operand.tmp 45], argTypes := #[22, 5] }, type := 5, pos := _, after := #[{ on := 4, ground := Ground.data }, { on := 8, ground := Ground.data }], guard := none }) rfl (fun K hK => ?_) AllReadyH.nil
            go_simp
            refine (rpAt_any w4.drew A4 l _ c4 rfl (by have := HLL.out; omega) (H4.out.1.drewN 1).bytes _ x rfl).mono ?_
            rintro e w5 ⟨rfl, rfl⟩
            try dsimp only
            refine hK.out _ _ ?_ (fun hHeld => ?_)
            · try dsimp only
              exact hHeld
            clear hK K
            try simp only [Act.put, List.setIfInBounds_toArray, List.set_cons_zero, List.set_cons_succ]
            refine wpAnyH_ready (rs := [10]) (by kernel_rfl) (by simp) ?_
            refine AllReadyH.cons (o := { dst := some 47, op := Op.call { callee := Callee.value (Operand.func 35), args := #[Operand.tmp 40, Operand.tmp 46], argTypes := #[5, 5] }, type := 65, pos := _, after := #[{ on := 3, ground := Ground.data }, { on := 9, ground := Ground.data }, { on := 9, ground := Ground.chain }], guard := none }) rfl (fun K hK => ?_) AllReadyH.nil
            go_simp
            refine (refDiv_any _ _ y (ev l x) rfl rfl _).mono ?_
            rintro e w5 ⟨rfl, rfl⟩
            try dsimp only
            refine hK.out _ _ ?_ (fun hHeld => ?_)
            · try dsimp only
              exact hHeld
            clear hK K
            try simp only [Act.put, List.setIfInBounds_toArray, List.set_cons_zero, List.set_cons_succ]
            refine wpAnyH_take (i := 11) (oi := { dst := some 36, op := Op.move (Operand.tmp 47), type := 65, pos := _, after := #[{ on := 10, ground := Ground.data }], guard := none }) (v := ?_) rfl (by kernel_rfl) (by kernel_rfl) (by kernel_rfl) (fun _ _ _ h => h) (Or.inl ⟨by rfl, ?_⟩) (by assumption) ?_
            rotate_left
            · intro w hSw
              try dsimp only at hSw
              go_simp
              try with_reducible rfl
            try simp only [Act.put, List.setIfInBounds_toArray, List.set_cons_zero, List.set_cons_succ]
            refine wpAnyH_take (i := 12) (oi := { dst := some 48, op := Op.extract (Operand.tmp 36) 0, type := 5, pos := _, after := #[{ on := 11, ground := Ground.data }], guard := none }) (v := ?_) rfl (by kernel_rfl) (by kernel_rfl) (by kernel_rfl) (fun _ _ _ h => h) (Or.inl ⟨by rfl, ?_⟩) (by assumption) ?_
            rotate_left
            · intro w hSw
              try dsimp only at hSw
              go_simp
              try with_reducible rfl
            try simp only [Act.put, List.setIfInBounds_toArray, List.set_cons_zero, List.set_cons_succ]
            refine wpAnyH_take (i := 13) (oi := { dst := some 49, op := Op.extract (Operand.tmp 36) 1, type := 4, pos := _, after := #[{ on := 11, ground := Ground.data }, { on := 14, ground := Ground.gcOnly Departure.lateStores }], guard := none }) (v := ?_) rfl (by kernel_rfl) (by kernel_rfl) (by kernel_rfl) (fun _ _ _ h => h) (Or.inl ⟨by rfl, ?_⟩) (by assumption) ?_
            rotate_left
            · intro w hSw
              try dsimp only at hSw
              go_simp
              try with_reducible rfl
            try simp only [Act.put, List.setIfInBounds_toArray, List.set_cons_zero, List.set_cons_succ]
            refine wpAnyH_take (i := 14) (oi := { dst := some 10, op := Op.assign (Operand.tmp 48), type := 5, pos := _, after := #[{ on := 12, ground := Ground.data }, { on := 10, ground := Ground.chain }, { on := 0, ground := Ground.phase }, { on := 1, ground := Ground.phase }, { on := 2, ground := Ground.phase }, { on := 3, ground := Ground.phase }, { on := 4, ground := Ground.phase }, { on := 5, ground := Ground.phase }, { on := 6, ground := Ground.phase }, { on := 7, ground := Ground.phase }, { on := 8, ground := Ground.phase }, { on := 9, ground := Ground.phase }, { on := 10, ground := Ground.phase }, { on := 11, ground := Ground.phase }, { on := 12, ground := Ground.phase }, { on := 13, ground := Ground.textOnly Departure.lateStores }], guard := none }) (v := ?_) rfl (by kernel_rfl) (by kernel_rfl) (by kernel_rfl) (fun _ _ _ h => h) (Or.inl ⟨by rfl, ?_⟩) (by assumption) ?_
            rotate_left
            · intro w hSw
              try dsimp only at hSw
              go_simp
              try with_reducible rfl
            try simp only [Act.put, List.setIfInBounds_toArray, List.set_cons_zero, List.set_cons_succ]
            refine wpAnyH_take (i := 15) (oi := { dst := some 11, op := Op.assign (Operand.tmp 49), type := 4, pos := _, after := #[{ on := 13, ground := Ground.data }, { on := 14, ground := Ground.chain }, { on := 0, ground := Ground.phase }, { on := 1, ground := Ground.phase }, { on := 2, ground := Ground.phase }, { on := 3, ground := Ground.phase }, { on := 4, ground := Ground.phase }, { on := 5, ground := Ground.phase }, { on := 6, ground := Ground.phase }, { on := 7, ground := Ground.phase }, { on := 8, ground := Ground.phase }, { on := 9, ground := Ground.phase }, { on := 10, ground := Ground.phase }, { on := 11, ground := Ground.phase }, { on := 12, ground := Ground.phase }, { on := 13, ground := Ground.phase }, { on := 14, ground := Ground.phase }], guard := none }) (v := ?_) rfl (by kernel_rfl) (by kernel_rfl) (by kernel_rfl) (fun _ _ _ h => h) (Or.inl ⟨by rfl, ?_⟩) (by assumption) ?_
            rotate_left
            · intro w hSw
              try dsimp only at hSw
              go_simp
              try with_reducible rfl
            try simp only [Act.put, List.setIfInBounds_toArray, List.set_cons_zero, List.set_cons_succ]
            refine wpAnyH_done (by kernel_rfl) ?_ _
            refine NoPanic.normal ?_
            have hdr : Below wr.heap.size wr w4.drew := HB4.out.trans ((nextN (Mem.start w4) 1).mono HB4.out.size)
            have HOUT := Lib.hid (HR.out.1.keep hdr)
            have HLW := Lib.hid (H4.out.1.drewN 1)
            have HDR := Lib.hid hdr
            rw [show w4.drewN 1 = w4.drew from rfl] at HLW
            clear hdr hHeld hcx hcy
            obtain ⟨w5, hw5⟩ : ∃ w5, w4.drew = w5 := ⟨_, rfl⟩
            rw [hw5] at HOUT HLW HDR ⊢
            clear hw5
            generalize ev l x = el at *
            obtain ⟨c, hc⟩ : ∃ c, div y el = c := ⟨_, rfl⟩
            rw [hc] at HST ⊢
            clear hc
            have hbs1 := build1 w5 (c.toNat : Int)
            have HC1 := Lib.hid (own1 w5 c)
            have HCB := Lib.hid (nextA (Mem.start w5) (.cells #[.int .u8 (c.toNat : Int)] 5))
            go_wp2_with fail
            generalize w5.alloc (.cells #[.int .u8 (c.toNat : Int)] 5) = w6 at *
            clear hbs1
            refine (rpMul_any w6 A4 l _ c4 rfl (some ⟨w5.heap.size, 0, none⟩) [c] 1 1 rfl (by have := HLL.out; simp; omega) (HLW.out.keep HCB.out).bytes HC1.out.bytes).mono ?_
            rintro e w7 ⟨M7, c7, rfl, ho7, hb7⟩
            have hm7 : ((trim (mulP l [c])).length : Int) ≤ 10000 := by
              have h1 := len_mul_le l [c]
              have h2 := len_le l
              have h3 : len [c] ≤ 1 := len_le [c]
              have h4 := HLL.out
              have h5 : (trim (mulP l [c])).length = len (mulP l [c]) := rfl
              omega
            have H7 := Lib.hid (And.intro ho7 hb7)
            have HM7 := Lib.hid hm7
            clear ho7 hb7 hm7
            obtain ⟨mm, hmm⟩ : ∃ mm, trim (mulP l [c]) = mm := ⟨_, rfl⟩
            rw [hmm] at HST H7 HM7 ⊢
            clear hmm
            go_wp2_with fail
            refine (rpAdd_any w7 O out _ co rfl M7 mm _ c7 rfl (by omega) HM7.out ((HOUT.out.keep HCB.out).keep H7.out.2).bytes H7.out.1.bytes).mono ?_
            rintro e w8 ⟨O8, c8, rfl, ho8, hb8⟩
            have H8 := Lib.hid (And.intro ho8 hb8)
            clear ho8 hb8
            obtain ⟨o8, ho8⟩ : ∃ o8, trim (add out mm) = o8 := ⟨_, rfl⟩
            rw [ho8] at HST H8 ⊢
            clear ho8
            have HALL := Lib.hid ((((HR.out.2.trans (HDR.out.mono HR.out.2.size)).trans (HCB.out.mono (Nat.le_trans HR.out.2.size HDR.out.size))).trans (H7.out.2.mono (Nat.le_trans (Nat.le_trans HR.out.2.size HDR.out.size) HCB.out.size))).trans (H8.out.2.mono (Nat.le_trans (Nat.le_trans (Nat.le_trans HR.out.2.size HDR.out.size) HCB.out.size) H7.out.2.size)))
            have HSZ := Lib.hid (Nat.le_trans (Nat.le_trans (Nat.le_trans HR.out.2.size HDR.out.size) HCB.out.size) H7.out.2.size)
            go_wp2_with fail
            go_roundw
            case rel => exact ⟨j + 1, O8, c8, o8, rfl, rfl, HJ.out, HST.out, H8.out.1.down HSZ.out, HALL.out⟩
            case measure => simp [intOf]; have := HJ.out; omega
          --END
        · go_wp2_with (first
            | ((with_reducible show wpList _ _ _ ((⟨some 27, _, _, _, _, _⟩ : Oper) :: _) _ _); refine wpList_app _ rfl _ _ _ rfl wr.heap.size 5 i0 _ 1 Try.underlying22 hi0 hz0 hz1 hz2 rfl none 0 0 [] rfl rfl Own.nil wr.heap.size (some ⟨q1, off1, none⟩) _ j ((xs.take j).map u8v) rfl (by simp <;> omega) ((HIA.out.take j).up HR.out.2.size) u8v_one (by simp [maxLen] <;> omega) (by simp <;> omega) (by simp) j (by simp) ?_; intro A1 c1 w2 ho1 hb1 _ _; have H1 := Lib.hid (And.intro ho1 hb1); clear ho1 hb1)
            | ((with_reducible show wpList _ _ _ ((⟨some 33, _, _, _, _, _⟩ : Oper) :: _) _ _); refine wpList_app _ rfl _ _ _ rfl wr.heap.size 5 i0 _ 1 Try.underlying22 hi0 hz0 hz1 hz2 rfl A1 c1 j ([] ++ (xs.take j).map u8v) rfl (by simp <;> omega) H1.out.1 wr.heap.size _ _ _ ((xs.drop (j + 1)).map u8v) rfl (by simp) (((HIA.out.drop (j + 1)).up HR.out.2.size).below H1.out.2) (by intro u hu; first | exact u8v_one u hu | simp at hu) (by simp [maxLen] <;> omega) (by simp <;> omega) (by have := H1.out.2.size; omega) (xs.length - 1) (by omega) ?_; intro A2 c2 w3 ho2 hb2 _ _; have H2 := Lib.hid (And.intro ho2 hb2); clear ho2 hb2))
          have HO3 := Lib.hid (show Mem.Own w3 wr.heap.size 5 A2 c2 ((others xs j).map u8v) from by rw [HOM.out]; simpa using H2.out.1)
          refine (rpRoots_any w3 A2 (others xs j) (xs.length - 1) c2 HOL.out.symm (by rw [HOL.out]; omega) HO3.out.bytes).mono ?_
          rintro e w4 ⟨A4, c4, rfl, ho4, hb4⟩
          have H4 := Lib.hid (And.intro ho4 hb4)
          clear ho4 hb4
          obtain ⟨l, hl⟩ : ∃ l, trim (rootsP (others xs j)) = l := ⟨_, rfl⟩
          have HLL := Lib.hid (show l.length = xs.length from by rw [← hl]; have h1 := rootsP_len (others xs j); have h2 := others_len hja; have h3 : (trim (rootsP (others xs j))).length = len (rootsP (others xs j)) := rfl; omega)
          rw [hl] at H4 ⊢
          have HL4 := Lib.hid hl
          have HB4 := Lib.hid (show Below wr.heap.size wr w4 from (H1.out.2.trans H2.out.2).trans (H4.out.2.mono (Nat.le_trans H1.out.2.size H2.out.2.size)))
          have hcx : w4.cell? ⟨q1, off1 + j, none⟩ = some (.int .u8 ((cf xs j).toNat : Int)) := (HB4.out.cell (alive HC.out.1)).trans HC.out.1
          have hcy : w4.cell? ⟨q2, off2 + j, none⟩ = some (.int .u8 ((cf ys j).toNat : Int)) := (HB4.out.cell (alive HC.out.2)).trans HC.out.2
          obtain ⟨x, hx⟩ : ∃ x, cf xs j = x := ⟨_, rfl⟩
          obtain ⟨y, hy⟩ : ∃ y, cf ys j = y := ⟨_, rfl⟩
          rw [hx] at hcx
          rw [hy] at hcy
          have HXV := Lib.hid (And.intro hx hy)
          have HJ := Lib.hid hja
          clear hl hx hy
          go_wp2_with fail
          --HELD
          by_cases hb0 : ev l x = 0
          · have HBD := Lib.hid (LS.bad (ys := ys) HJ.out (by rw [HL4.out, HXV.out.1]; exact hb0))
            have hnz : nz (ev l x) = false := by rw [hb0]; rfl
            clear hb0
            refine wp_region_noPanic ?_
            refine wp_region_held_drew (S := fun w' => w'.cell? ⟨q2, off2 + j, none⟩ = some (.int .u8 (y.toNat : Int)) ∧ w'.cell? ⟨q1, off1 + j, none⟩ = some (.int .u8 (x.toNat : Int))) (by kernel_rfl) ?hs0 ?rg0
            case hs0 =>
              exact ⟨hcy, hcx⟩
            case rg0 =>
            intro hHeld
            refine wpAnyH_take (i := 0) (oi := { dst := some 37, op := Op.move (Operand.tmp 1), type := 22, pos := _, after := #[], guard := none }) (v := ?_) rfl (by kernel_rfl) (by kernel_rfl) (by kernel_rfl) (fun _ _ _ h => h) (Or.inl ⟨by rfl, ?_⟩) (by assumption) ?_
            rotate_left
            · intro w hSw
              try dsimp only at hSw
              go_simp
              try with_reducible rfl
            try simp only [Act.put, List.setIfInBounds_toArray, List.set_cons_zero, List.set_cons_succ]
            refine wpAnyH_take (i := 1) (oi := { dst := some 38, op := Op.move (Operand.tmp 7), type := 3, pos := _, after := #[], guard := none }) (v := ?_) rfl (by kernel_rfl) (by kernel_rfl) (by kernel_rfl) (fun _ _ _ h => h) (Or.inl ⟨by rfl, ?_⟩) (by assumption) ?_
            rotate_left
            · intro w hSw
              try dsimp only at hSw
              go_simp
              try with_reducible rfl
            try simp only [Act.put, List.setIfInBounds_toArray, List.set_cons_zero, List.set_cons_succ]
            refine wpAnyH_take (i := 2) (oi := { dst := some 39, op := Op.indexAddr 22 (Operand.tmp 37) (Operand.tmp 38), type := 0, pos := _, after := #[{ on := 0, ground := Ground.data }, { on := 1, ground := Ground.data }], guard := none }) (v := ?_) rfl (by kernel_rfl) (by kernel_rfl) (by kernel_rfl) (fun _ _ _ h => h) (Or.inl ⟨by rfl, ?_⟩) (by assumption) ?_
            rotate_left
            · intro w hSw
              try dsimp only at hSw
              go_simp
              try with_reducible rfl
            try simp only [Act.put, List.setIfInBounds_toArray, List.set_cons_zero, List.set_cons_succ]
            refine wpAnyH_take (i := 3) (oi := { dst := some 40, op := Op.load 5 (Operand.tmp 39), type := 5, pos := _, after := #[{ on := 2, ground := Ground.data }], guard := none }) (v := ?_) rfl (by kernel_rfl) (by kernel_rfl) (by kernel_rfl) (fun _ _ _ h => h) (Or.inl ⟨by rfl, ?_⟩) (by assumption) ?_
            rotate_left
            · intro w hSw
              try dsimp only at hSw
              go_simp
              try with_reducible rfl
            try simp only [Act.put, List.setIfInBounds_toArray, List.set_cons_zero, List.set_cons_succ]
            refine wpAnyH_take (i := 4) (oi := { dst := some 41, op := Op.move (Operand.tmp 9), type := 22, pos := _, after := #[], guard := none }) (v := ?_) rfl (by kernel_rfl) (by kernel_rfl) (by kernel_rfl) (fun _ _ _ h => h) (Or.inl ⟨by rfl, ?_⟩) (by assumption) ?_
            rotate_left
            · intro w hSw
              try dsimp only at hSw
              go_simp
              try with_reducible rfl
            try simp only [Act.put, List.setIfInBounds_toArray, List.set_cons_zero, List.set_cons_succ]
            refine wpAnyH_take (i := 5) (oi := { dst := some 42, op := Op.move (Operand.tmp 0), type := 22, pos := _, after := #[], guard := none }) (v := ?_) rfl (by kernel_rfl) (by kernel_rfl) (by kernel_rfl) (fun _ _ _ h => h) (Or.inl ⟨by rfl, ?_⟩) (by assumption) ?_
            rotate_left
            · intro w hSw
              try dsimp only at hSw
              go_simp
              try with_reducible rfl
            try simp only [Act.put, List.setIfInBounds_toArray, List.set_cons_zero, List.set_cons_succ]
            refine wpAnyH_take (i := 6) (oi := { dst := some 43, op := Op.move (Operand.tmp 7), type := 3, pos := _, after := #[], guard := none }) (v := ?_) rfl (by kernel_rfl) (by kernel_rfl) (by kernel_rfl) (fun _ _ _ h => h) (Or.inl ⟨by rfl, ?_⟩) (by assumption) ?_
            rotate_left
            · intro w hSw
              try dsimp only at hSw
              go_simp
              try with_reducible rfl
            try simp only [Act.put, List.setIfInBounds_toArray, List.set_cons_zero, List.set_cons_succ]
            refine wpAnyH_take (i := 7) (oi := { dst := some 44, op := Op.indexAddr 22 (Operand.tmp 42) (Operand.tmp 43), type := 0, pos := _, after := #[{ on := 5, ground := Ground.data }, { on := 6, ground := Ground.data }], guard := none }) (v := ?_) rfl (by kernel_rfl) (by kernel_rfl) (by kernel_rfl) (fun _ _ _ h => h) (Or.inl ⟨by rfl, ?_⟩) (by assumption) ?_
            rotate_left
            · intro w hSw
              try dsimp only at hSw
              go_simp
              try with_reducible rfl
            try simp only [Act.put, List.setIfInBounds_toArray, List.set_cons_zero, List.set_cons_succ]
            refine wpAnyH_take (i := 8) (oi := { dst := some 45, op := Op.load 5 (Operand.tmp 44), type := 5, pos := _, after := #[{ on := 7, ground := Ground.data }], guard := none }) (v := ?_) rfl (by kernel_rfl) (by kernel_rfl) (by kernel_rfl) (fun _ _ _ h => h) (Or.inl ⟨by rfl, ?_⟩) (by assumption) ?_
            rotate_left
            · intro w hSw
              try dsimp only at hSw
              go_simp
              try with_reducible rfl
            try simp only [Act.put, List.setIfInBounds_toArray, List.set_cons_zero, List.set_cons_succ]
            refine wpAnyH_ready (rs := [9]) (by kernel_rfl) (by simp) ?_
            refine AllReadyH.cons (o := { dst := some 46, op := Op.call { callee := Callee.value (Operand.func 27), args := #[Operand.tmp 41, Operand.tmp 45], argTypes := #[22, 5] }, type := 5, pos := _, after := #[{ on := 4, ground := Ground.data }, { on := 8, ground := Ground.data }], guard := none }) rfl (fun K hK => ?_) AllReadyH.nil
            go_simp
            refine (rpAt_any w4.drew A4 l _ c4 rfl (by have := HLL.out; omega) (H4.out.1.drewN 1).bytes _ x rfl).mono ?_
            rintro e w5 ⟨rfl, rfl⟩
            try dsimp only
            refine hK.out _ _ ?_ (fun hHeld => ?_)
            · try dsimp only
              exact hHeld
            clear hK K
            try simp only [Act.put, List.setIfInBounds_toArray, List.set_cons_zero, List.set_cons_succ]
            refine wpAnyH_ready (rs := [10]) (by kernel_rfl) (by simp) ?_
            refine AllReadyH.cons (o := { dst := some 47, op := Op.call { callee := Callee.value (Operand.func 35), args := #[Operand.tmp 40, Operand.tmp 46], argTypes := #[5, 5] }, type := 65, pos := _, after := #[{ on := 3, ground := Ground.data }, { on := 9, ground := Ground.data }, { on := 9, ground := Ground.chain }], guard := none }) rfl (fun K hK => ?_) AllReadyH.nil
            go_simp
            refine (refDiv_any _ _ y (ev l x) rfl rfl _).mono ?_
            rintro e w5 ⟨rfl, rfl⟩
            try dsimp only
            refine hK.out _ _ ?_ (fun hHeld => ?_)
            · try dsimp only
              exact hHeld
            clear hK K
            try simp only [Act.put, List.setIfInBounds_toArray, List.set_cons_zero, List.set_cons_succ]
            refine wpAnyH_take (i := 11) (oi := { dst := some 36, op := Op.move (Operand.tmp 47), type := 65, pos := _, after := #[{ on := 10, ground := Ground.data }], guard := none }) (v := ?_) rfl (by kernel_rfl) (by kernel_rfl) (by kernel_rfl) (fun _ _ _ h => h) (Or.inl ⟨by rfl, ?_⟩) (by assumption) ?_
            rotate_left
            · intro w hSw
              try dsimp only at hSw
              go_simp
              try with_reducible rfl
            try simp only [Act.put, List.setIfInBounds_toArray, List.set_cons_zero, List.set_cons_succ]
            refine wpAnyH_take (i := 12) (oi := { dst := some 48, op := Op.extract (Operand.tmp 36) 0, type := 5, pos := _, after := #[{ on := 11, ground := Ground.data }], guard := none }) (v := ?_) rfl (by kernel_rfl) (by kernel_rfl) (by kernel_rfl) (fun _ _ _ h => h) (Or.inl ⟨by rfl, ?_⟩) (by assumption) ?_
            rotate_left
            · intro w hSw
              try dsimp only at hSw
              go_simp
              try with_reducible rfl
            try simp only [Act.put, List.setIfInBounds_toArray, List.set_cons_zero, List.set_cons_succ]
            refine wpAnyH_take (i := 13) (oi := { dst := some 49, op := Op.extract (Operand.tmp 36) 1, type := 4, pos := _, after := #[{ on := 11, ground := Ground.data }, { on := 14, ground := Ground.gcOnly Departure.lateStores }], guard := none }) (v := ?_) rfl (by kernel_rfl) (by kernel_rfl) (by kernel_rfl) (fun _ _ _ h => h) (Or.inl ⟨by rfl, ?_⟩) (by assumption) ?_
            rotate_left
            · intro w hSw
              try dsimp only at hSw
              go_simp
              try with_reducible rfl
            try simp only [Act.put, List.setIfInBounds_toArray, List.set_cons_zero, List.set_cons_succ]
            refine wpAnyH_take (i := 14) (oi := { dst := some 10, op := Op.assign (Operand.tmp 48), type := 5, pos := _, after := #[{ on := 12, ground := Ground.data }, { on := 10, ground := Ground.chain }, { on := 0, ground := Ground.phase }, { on := 1, ground := Ground.phase }, { on := 2, ground := Ground.phase }, { on := 3, ground := Ground.phase }, { on := 4, ground := Ground.phase }, { on := 5, ground := Ground.phase }, { on := 6, ground := Ground.phase }, { on := 7, ground := Ground.phase }, { on := 8, ground := Ground.phase }, { on := 9, ground := Ground.phase }, { on := 10, ground := Ground.phase }, { on := 11, ground := Ground.phase }, { on := 12, ground := Ground.phase }, { on := 13, ground := Ground.textOnly Departure.lateStores }], guard := none }) (v := ?_) rfl (by kernel_rfl) (by kernel_rfl) (by kernel_rfl) (fun _ _ _ h => h) (Or.inl ⟨by rfl, ?_⟩) (by assumption) ?_
            rotate_left
            · intro w hSw
              try dsimp only at hSw
              go_simp
              try with_reducible rfl
            try simp only [Act.put, List.setIfInBounds_toArray, List.set_cons_zero, List.set_cons_succ]
            refine wpAnyH_take (i := 15) (oi := { dst := some 11, op := Op.assign (Operand.tmp 49), type := 4, pos := _, after := #[{ on := 13, ground := Ground.data }, { on := 14, ground := Ground.chain }, { on := 0, ground := Ground.phase }, { on := 1, ground := Ground.phase }, { on := 2, ground := Ground.phase }, { on := 3, ground := Ground.phase }, { on := 4, ground := Ground.phase }, { on := 5, ground := Ground.phase }, { on := 6, ground := Ground.phase }, { on := 7, ground := Ground.phase }, { on := 8, ground := Ground.phase }, { on := 9, ground := Ground.phase }, { on := 10, ground := Ground.phase }, { on := 11, ground := Ground.phase }, { on := 12, ground := Ground.phase }, { on := 13, ground := Ground.phase }, { on := 14, ground := Ground.phase }], guard := none }) (v := ?_) rfl (by kernel_rfl) (by kernel_rfl) (by kernel_rfl) (fun _ _ _ h => h) (Or.inl ⟨by rfl, ?_⟩) (by assumption) ?_
            rotate_left
            · intro w hSw
              try dsimp only at hSw
              go_simp
              try with_reducible rfl
            try simp only [Act.put, List.setIfInBounds_toArray, List.set_cons_zero, List.set_cons_succ]
            refine wpAnyH_done (by kernel_rfl) ?_ _
            refine NoPanic.normal ?_
            generalize ev l x = el at *
            go_wp2_with fail
            go_ret2
            exact ⟨.inr ⟨HBD.out, rfl⟩, HR.out.2.trans ((HB4.out.trans ((nextN (Mem.start w4) 1).mono HB4.out.size)).mono HR.out.2.size)⟩
          · have HST := Lib.hid (LS.step HT.out HJ.out HXY.out (by rw [HL4.out, HXV.out.1]; exact hb0))
            rw [HL4.out, HXV.out.1, HXV.out.2] at HST
            have hnz : nz (ev l x) = true := nz_ne hb0
            clear hb0
            refine wp_region_noPanic ?_
            refine wp_region_held_drew (S := fun w' => w'.cell? ⟨q2, off2 + j, none⟩ = some (.int .u8 (y.toNat : Int)) ∧ w'.cell? ⟨q1, off1 + j, none⟩ = some (.int .u8 (x.toNat : Int))) (by kernel_rfl) ?hs0 ?rg0
            case hs0 =>
              exact ⟨hcy, hcx⟩
            case rg0 =>
            intro hHeld
            refine wpAnyH_take (i := 0) (oi := { dst := some 37, op := Op.move (Operand.tmp 1), type := 22, pos := _, after := #[], guard := none }) (v := ?_) rfl (by kernel_rfl) (by kernel_rfl) (by kernel_rfl) (fun _ _ _ h => h) (Or.inl ⟨by rfl, ?_⟩) (by assumption) ?_
            rotate_left
            · intro w hSw
              try dsimp only at hSw
              go_simp
              try with_reducible rfl
            try simp only [Act.put, List.setIfInBounds_toArray, List.set_cons_zero, List.set_cons_succ]
            refine wpAnyH_take (i := 1) (oi := { dst := some 38, op := Op.move (Operand.tmp 7), type := 3, pos := _, after := #[], guard := none }) (v := ?_) rfl (by kernel_rfl) (by kernel_rfl) (by kernel_rfl) (fun _ _ _ h => h) (Or.inl ⟨by rfl, ?_⟩) (by assumption) ?_
            rotate_left
            · intro w hSw
              try dsimp only at hSw
              go_simp
              try with_reducible rfl
            try simp only [Act.put, List.setIfInBounds_toArray, List.set_cons_zero, List.set_cons_succ]
            refine wpAnyH_take (i := 2) (oi := { dst := some 39, op := Op.indexAddr 22 (Operand.tmp 37) (Operand.tmp 38), type := 0, pos := _, after := #[{ on := 0, ground := Ground.data }, { on := 1, ground := Ground.data }], guard := none }) (v := ?_) rfl (by kernel_rfl) (by kernel_rfl) (by kernel_rfl) (fun _ _ _ h => h) (Or.inl ⟨by rfl, ?_⟩) (by assumption) ?_
            rotate_left
            · intro w hSw
              try dsimp only at hSw
              go_simp
              try with_reducible rfl
            try simp only [Act.put, List.setIfInBounds_toArray, List.set_cons_zero, List.set_cons_succ]
            refine wpAnyH_take (i := 3) (oi := { dst := some 40, op := Op.load 5 (Operand.tmp 39), type := 5, pos := _, after := #[{ on := 2, ground := Ground.data }], guard := none }) (v := ?_) rfl (by kernel_rfl) (by kernel_rfl) (by kernel_rfl) (fun _ _ _ h => h) (Or.inl ⟨by rfl, ?_⟩) (by assumption) ?_
            rotate_left
            · intro w hSw
              try dsimp only at hSw
              go_simp
              try with_reducible rfl
            try simp only [Act.put, List.setIfInBounds_toArray, List.set_cons_zero, List.set_cons_succ]
            refine wpAnyH_take (i := 4) (oi := { dst := some 41, op := Op.move (Operand.tmp 9), type := 22, pos := _, after := #[], guard := none }) (v := ?_) rfl (by kernel_rfl) (by kernel_rfl) (by kernel_rfl) (fun _ _ _ h => h) (Or.inl ⟨by rfl, ?_⟩) (by assumption) ?_
            rotate_left
            · intro w hSw
              try dsimp only at hSw
              go_simp
              try with_reducible rfl
            try simp only [Act.put, List.setIfInBounds_toArray, List.set_cons_zero, List.set_cons_succ]
            refine wpAnyH_take (i := 5) (oi := { dst := some 42, op := Op.move (Operand.tmp 0), type := 22, pos := _, after := #[], guard := none }) (v := ?_) rfl (by kernel_rfl) (by kernel_rfl) (by kernel_rfl) (fun _ _ _ h => h) (Or.inl ⟨by rfl, ?_⟩) (by assumption) ?_
            rotate_left
            · intro w hSw
              try dsimp only at hSw
              go_simp
              try with_reducible rfl
            try simp only [Act.put, List.setIfInBounds_toArray, List.set_cons_zero, List.set_cons_succ]
            refine wpAnyH_take (i := 6) (oi := { dst := some 43, op := Op.move (Operand.tmp 7), type := 3, pos := _, after := #[], guard := none }) (v := ?_) rfl (by kernel_rfl) (by kernel_rfl) (by kernel_rfl) (fun _ _ _ h => h) (Or.inl ⟨by rfl, ?_⟩) (by assumption) ?_
            rotate_left
            · intro w hSw
              try dsimp only at hSw
              go_simp
              try with_reducible rfl
            try simp only [Act.put, List.setIfInBounds_toArray, List.set_cons_zero, List.set_cons_succ]
            refine wpAnyH_take (i := 7) (oi := { dst := some 44, op := Op.indexAddr 22 (Operand.tmp 42) (Operand.tmp 43), type := 0, pos := _, after := #[{ on := 5, ground := Ground.data }, { on := 6, ground := Ground.data }], guard := none }) (v := ?_) rfl (by kernel_rfl) (by kernel_rfl) (by kernel_rfl) (fun _ _ _ h => h) (Or.inl ⟨by rfl, ?_⟩) (by assumption) ?_
            rotate_left
            · intro w hSw
              try dsimp only at hSw
              go_simp
              try with_reducible rfl
            try simp only [Act.put, List.setIfInBounds_toArray, List.set_cons_zero, List.set_cons_succ]
            refine wpAnyH_take (i := 8) (oi := { dst := some 45, op := Op.load 5 (Operand.tmp 44), type := 5, pos := _, after := #[{ on := 7, ground := Ground.data }], guard := none }) (v := ?_) rfl (by kernel_rfl) (by kernel_rfl) (by kernel_rfl) (fun _ _ _ h => h) (Or.inl ⟨by rfl, ?_⟩) (by assumption) ?_
            rotate_left
            · intro w hSw
              try dsimp only at hSw
              go_simp
              try with_reducible rfl
            try simp only [Act.put, List.setIfInBounds_toArray, List.set_cons_zero, List.set_cons_succ]
            refine wpAnyH_ready (rs := [9]) (by kernel_rfl) (by simp) ?_
            refine AllReadyH.cons (o := { dst := some 46, op := Op.call { callee := Callee.value (Operand.func 27), args := #[Operand.tmp 41, Operand.tmp 45], argTypes := #[22, 5] }, type := 5, pos := _, after := #[{ on := 4, ground := Ground.data }, { on := 8, ground := Ground.data }], guard := none }) rfl (fun K hK => ?_) AllReadyH.nil
            go_simp
            refine (rpAt_any w4.drew A4 l _ c4 rfl (by have := HLL.out; omega) (H4.out.1.drewN 1).bytes _ x rfl).mono ?_
            rintro e w5 ⟨rfl, rfl⟩
            try dsimp only
            refine hK.out _ _ ?_ (fun hHeld => ?_)
            · try dsimp only
              exact hHeld
            clear hK K
            try simp only [Act.put, List.setIfInBounds_toArray, List.set_cons_zero, List.set_cons_succ]
            refine wpAnyH_ready (rs := [10]) (by kernel_rfl) (by simp) ?_
            refine AllReadyH.cons (o := { dst := some 47, op := Op.call { callee := Callee.value (Operand.func 35), args := #[Operand.tmp 40, Operand.tmp 46], argTypes := #[5, 5] }, type := 65, pos := _, after := #[{ on := 3, ground := Ground.data }, { on := 9, ground := Ground.data }, { on := 9, ground := Ground.chain }], guard := none }) rfl (fun K hK => ?_) AllReadyH.nil
            go_simp
            refine (refDiv_any _ _ y (ev l x) rfl rfl _).mono ?_
            rintro e w5 ⟨rfl, rfl⟩
            try dsimp only
            refine hK.out _ _ ?_ (fun hHeld => ?_)
            · try dsimp only
              exact hHeld
            clear hK K
            try simp only [Act.put, List.setIfInBounds_toArray, List.set_cons_zero, List.set_cons_succ]
            refine wpAnyH_take (i := 11) (oi := { dst := some 36, op := Op.move (Operand.tmp 47), type := 65, pos := _, after := #[{ on := 10, ground := Ground.data }], guard := none }) (v := ?_) rfl (by kernel_rfl) (by kernel_rfl) (by kernel_rfl) (fun _ _ _ h => h) (Or.inl ⟨by rfl, ?_⟩) (by assumption) ?_
            rotate_left
            · intro w hSw
              try dsimp only at hSw
              go_simp
              try with_reducible rfl
            try simp only [Act.put, List.setIfInBounds_toArray, List.set_cons_zero, List.set_cons_succ]
            refine wpAnyH_take (i := 12) (oi := { dst := some 48, op := Op.extract (Operand.tmp 36) 0, type := 5, pos := _, after := #[{ on := 11, ground := Ground.data }], guard := none }) (v := ?_) rfl (by kernel_rfl) (by kernel_rfl) (by kernel_rfl) (fun _ _ _ h => h) (Or.inl ⟨by rfl, ?_⟩) (by assumption) ?_
            rotate_left
            · intro w hSw
              try dsimp only at hSw
              go_simp
              try with_reducible rfl
            try simp only [Act.put, List.setIfInBounds_toArray, List.set_cons_zero, List.set_cons_succ]
            refine wpAnyH_take (i := 13) (oi := { dst := some 49, op := Op.extract (Operand.tmp 36) 1, type := 4, pos := _, after := #[{ on := 11, ground := Ground.data }, { on := 14, ground := Ground.gcOnly Departure.lateStores }], guard := none }) (v := ?_) rfl (by kernel_rfl) (by kernel_rfl) (by kernel_rfl) (fun _ _ _ h => h) (Or.inl ⟨by rfl, ?_⟩) (by assumption) ?_
            rotate_left
            · intro w hSw
              try dsimp only at hSw
              go_simp
              try with_reducible rfl
            try simp only [Act.put, List.setIfInBounds_toArray, List.set_cons_zero, List.set_cons_succ]
            refine wpAnyH_take (i := 14) (oi := { dst := some 10, op := Op.assign (Operand.tmp 48), type := 5, pos := _, after := #[{ on := 12, ground := Ground.data }, { on := 10, ground := Ground.chain }, { on := 0, ground := Ground.phase }, { on := 1, ground := Ground.phase }, { on := 2, ground := Ground.phase }, { on := 3, ground := Ground.phase }, { on := 4, ground := Ground.phase }, { on := 5, ground := Ground.phase }, { on := 6, ground := Ground.phase }, { on := 7, ground := Ground.phase }, { on := 8, ground := Ground.phase }, { on := 9, ground := Ground.phase }, { on := 10, ground := Ground.phase }, { on := 11, ground := Ground.phase }, { on := 12, ground := Ground.phase }, { on := 13, ground := Ground.textOnly Departure.lateStores }], guard := none }) (v := ?_) rfl (by kernel_rfl) (by kernel_rfl) (by kernel_rfl) (fun _ _ _ h => h) (Or.inl ⟨by rfl, ?_⟩) (by assumption) ?_
            rotate_left
            · intro w hSw
              try dsimp only at hSw
              go_simp
              try with_reducible rfl
            try simp only [Act.put, List.setIfInBounds_toArray, List.set_cons_zero, List.set_cons_succ]
            refine wpAnyH_take (i := 15) (oi := { dst := some 11, op := Op.assign (Operand.tmp 49), type := 4, pos := _, after := #[{ on := 13, ground := Ground.data }, { on := 14, ground := Ground.chain }, { on := 0, ground := Ground.phase }, { on := 1, ground := Ground.phase }, { on := 2, ground := Ground.phase }, { on := 3, ground := Ground.phase }, { on := 4, ground := Ground.phase }, { on := 5, ground := Ground.phase }, { on := 6, ground := Ground.phase }, { on := 7, ground := Ground.phase }, { on := 8, ground := Ground.phase }, { on := 9, ground := Ground.phase }, { on := 10, ground := Ground.phase }, { on := 11, ground := Ground.phase }, { on := 12, ground := Ground.phase }, { on := 13, ground := Ground.phase }, { on := 14, ground := Ground.phase }], guard := none }) (v := ?_) rfl (by kernel_rfl) (by kernel_rfl) (by kernel_rfl) (fun _ _ _ h => h) (Or.inl ⟨by rfl, ?_⟩) (by assumption) ?_
            rotate_left
            · intro w hSw
              try dsimp only at hSw
              go_simp
              try with_reducible rfl
            try simp only [Act.put, List.setIfInBounds_toArray, List.set_cons_zero, List.set_cons_succ]
            refine wpAnyH_done (by kernel_rfl) ?_ _
            refine NoPanic.normal ?_
            have hdr : Below wr.heap.size wr w4.drew := HB4.out.trans ((nextN (Mem.start w4) 1).mono HB4.out.size)
            have HOUT := Lib.hid (HR.out.1.keep hdr)
            have HLW := Lib.hid (H4.out.1.drewN 1)
            have HDR := Lib.hid hdr
            rw [show w4.drewN 1 = w4.drew from rfl] at HLW
            clear hdr hHeld hcx hcy
            obtain ⟨w5, hw5⟩ : ∃ w5, w4.drew = w5 := ⟨_, rfl⟩
            rw [hw5] at HOUT HLW HDR ⊢
            clear hw5
            generalize ev l x = el at *
            obtain ⟨c, hc⟩ : ∃ c, div y el = c := ⟨_, rfl⟩
            rw [hc] at HST ⊢
            clear hc
            have hbs1 := build1 w5 (c.toNat : Int)
            have HC1 := Lib.hid (own1 w5 c)
            have HCB := Lib.hid (nextA (Mem.start w5) (.cells #[.int .u8 (c.toNat : Int)] 5))
            go_wp2_with fail
            generalize w5.alloc (.cells #[.int .u8 (c.toNat : Int)] 5) = w6 at *
            clear hbs1
            refine (rpMul_any w6 A4 l _ c4 rfl (some ⟨w5.heap.size, 0, none⟩) [c] 1 1 rfl (by have := HLL.out; simp; omega) (HLW.out.keep HCB.out).bytes HC1.out.bytes).mono ?_
            rintro e w7 ⟨M7, c7, rfl, ho7, hb7⟩
            have hm7 : ((trim (mulP l [c])).length : Int) ≤ 10000 := by
              have h1 := len_mul_le l [c]
              have h2 := len_le l
              have h3 : len [c] ≤ 1 := len_le [c]
              have h4 := HLL.out
              have h5 : (trim (mulP l [c])).length = len (mulP l [c]) := rfl
              omega
            have H7 := Lib.hid (And.intro ho7 hb7)
            have HM7 := Lib.hid hm7
            clear ho7 hb7 hm7
            obtain ⟨mm, hmm⟩ : ∃ mm, trim (mulP l [c]) = mm := ⟨_, rfl⟩
            rw [hmm] at HST H7 HM7 ⊢
            clear hmm
            go_wp2_with fail
            refine (rpAdd_any w7 O out _ co rfl M7 mm _ c7 rfl (by omega) HM7.out ((HOUT.out.keep HCB.out).keep H7.out.2).bytes H7.out.1.bytes).mono ?_
            rintro e w8 ⟨O8, c8, rfl, ho8, hb8⟩
            have H8 := Lib.hid (And.intro ho8 hb8)
            clear ho8 hb8
            obtain ⟨o8, ho8⟩ : ∃ o8, trim (add out mm) = o8 := ⟨_, rfl⟩
            rw [ho8] at HST H8 ⊢
            clear ho8
            have HALL := Lib.hid ((((HR.out.2.trans (HDR.out.mono HR.out.2.size)).trans (HCB.out.mono (Nat.le_trans HR.out.2.size HDR.out.size))).trans (H7.out.2.mono (Nat.le_trans (Nat.le_trans HR.out.2.size HDR.out.size) HCB.out.size))).trans (H8.out.2.mono (Nat.le_trans (Nat.le_trans (Nat.le_trans HR.out.2.size HDR.out.size) HCB.out.size) H7.out.2.size)))
            have HSZ := Lib.hid (Nat.le_trans (Nat.le_trans (Nat.le_trans HR.out.2.size HDR.out.size) HCB.out.size) H7.out.2.size)
            go_wp2_with fail
            go_roundw
            case rel => exact ⟨j + 1, O8, c8, o8, rfl, rfl, HJ.out, HST.out, H8.out.1.down HSZ.out, HALL.out⟩
            case measure => simp [intOf]; have := HJ.out; omega
          --END
      · obtain rfl : j = xs.length := by omega
        have HD := Lib.hid (And.intro (hls.done HXY.out) (And.intro ho hb))
        clear hls ho hb
        go_wp2_with fail
        go_ret2
        obtain ⟨⟨h1, h2, h3⟩, h4, h5⟩ := HD.out
        exact ⟨.inl ⟨h1, out, O, co, h2, h3, rfl, h4⟩, h5⟩
  · have hne : ((xs.length : Int) != (ys.length : Int)) = true := by simp; omega
    go_enter Try.func25, Try.ntmps25
    go_wp2_with fail
    go_ret2
    exact ⟨.inr ⟨fun h => hxy h.1, rfl⟩, Below.refl _ _⟩
end Go.Proofs.Ytciilojlfaihjaa.PlW
