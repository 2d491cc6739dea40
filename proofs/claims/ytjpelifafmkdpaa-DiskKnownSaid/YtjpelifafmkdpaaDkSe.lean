/- The law DiskSettled: its walk. -/
import Derived.Test.YtjpelifafmkdpaaDkTw
namespace Go.Proofs.Ytjpelifafmkdpaa.DkW
open Go.RowKit Go.Shelf Mem Rng
set_option linter.unusedVariables false

theorem i64_3 : I64 3 := ⟨by decide, by decide⟩
/-- The write moved to another block than the last. -/
def oth (x : Open.OneP) : Open.OneP := ⟨x.i % 3, x.A, x.b, x.c⟩
theorem oth_i (x : Open.OneP) : (oth x).i.toNat = x.i.toNat % 3 := UInt8.toNat_mod _ _
theorem putinfo : (Try.prog.info? 27).map (fun i => (i.zero, i.size, i.bytes)) = some (some (.agg #[.int .u8 0, .slice none 0 0]), 2, 32) := by kernel_rfl
theorem put_one (x : Open.OneP) : ∀ u ∈ x.cells, u.oneCell' = true := by
  intro u hu
  simp [Open.OneP.cells, u8v] at hu
  rcases hu with rfl | rfl <;> rfl
theorem fated_other (fates : List UInt8) (i : Int) : ∀ (L : List (Int × List UInt8)) (k : Nat) (S : Int → List UInt8), (∀ x ∈ L, x.1 ≠ i) → fated fates k L S i = S i
  | [], _, _, _ => rfl
  | (j, b) :: r, k, S, h => by
    show fated fates (k + 1) r _ i = _
    rw [fated_other fates i r (k + 1) _ (fun x hx => h x (by simp [hx]))]
    exact if_neg fun e => h (j, b) (by simp) e.symm
theorem nowOf_other (i : Int) : ∀ (l : List Open.OneP) (N : Int → List UInt8), (∀ x ∈ l, ((x.i.toNat % 4 : Nat) : Int) ≠ i) → nowOf N l i = N i
  | [], _, _ => rfl
  | y :: r, N, h => by
    show nowOf (upd N _ _) r i = _
    rw [nowOf_other i r _ (fun x hx => h x (by simp [hx]))]
    exact if_neg fun e => h y (by simp) e.symm
theorem wrOf_eq (l r : List Open.OneP) : wrOf l r = ⟨4, nowOf (fun _ => z256) l, nowOf (nowOf (fun _ => z256) l) r, latesOf r, l.length + 1 + r.length, -1, false⟩ := by
  unfold wrOf
  rw [(new4.puts l).sync]
  show DS.mk 4 _ _ _ (0 + l.length + 1 + r.length) (-1) false = _
  rw [Nat.zero_add]; rfl
theorem oth3 (r : List Open.OneP) : ∀ x ∈ r.map oth, ((x.i.toNat % 4 : Nat) : Int) ≠ 3 := fun x hx => by
  obtain ⟨y, _, rfl⟩ := List.mem_map.1 hx
  rw [oth_i]; omega
theorem lates3 (r : List Open.OneP) : ∀ x ∈ latesOf (r.map oth), x.1 ≠ 3 := fun x hx => by
  obtain ⟨y, hy, rfl⟩ := List.mem_map.1 hx
  exact oth3 r y hy
/-- Block 3 at first, and behind the power's coming and going. -/
theorem settled3 (l r : List Open.OneP) (one two : List UInt8) : ((wrOf l (r.map oth)).crash.on one).N 3 = (wrOf l (r.map oth)).N 3 ∧ (((wrOf l (r.map oth)).crash.on one).crash.on two).N 3 = (wrOf l (r.map oth)).N 3 := by
  have e1 : (wrOf l (r.map oth)).N 3 = nowOf (fun _ => z256) l 3 := by rw [wrOf_eq]; exact nowOf_other 3 _ _ (oth3 r)
  have e2 : ((wrOf l (r.map oth)).crash.on one).N 3 = nowOf (fun _ => z256) l 3 := by
    rw [wrOf_eq]
    exact fated_other one 3 _ 0 _ (lates3 r)
  exact ⟨e2.trans e1.symm, (show _ = ((wrOf l (r.map oth)).crash.on one).N 3 from rfl).trans (e2.trans e1.symm)⟩
theorem small_oth {r : List Open.OneP} (h : Small r) : Small (r.map oth) := ⟨by rw [List.length_map]; exact h.1, fun x hx => by obtain ⟨y, hy, rfl⟩ := List.mem_map.1 hx; exact h.2 y hy⟩
/-- The law's own row of writes. -/
def OthI (w : World) (r : List Open.OneP) (j : Nat) (A : Option Addr) (c : Nat) (wr : World) : Prop := OwnK wr w.heap.size 27 2 A j c (((r.take j).map oth).flatMap Open.OneP.cells) ∧ Below w.heap.size w wr
set_option maxRecDepth 100000 in
set_option maxHeartbeats 8000000 in
theorem settled_any (w : World) (A : Option Addr) (l : List Open.OneP) (c : Nat) (hcl : l.length ≤ c) (hmx : c ≤ maxLen) (hF : Cells w w.heap.size A (l.flatMap Open.OneP.cells)) (hg : ∀ x ∈ l, x.good w)
    (B : Option Addr) (r : List Open.OneP) (d : Nat) (hdl : r.length ≤ d) (hmd : d ≤ maxLen) (hG : Cells w w.heap.size B (r.flatMap Open.OneP.cells)) (hgr : ∀ x ∈ r, x.good w)
    (C : Option Addr) (one : List UInt8) (c1 : Nat) (h1l : one.length ≤ c1) (h1m : c1 ≤ maxLen) (h1 : Bytes w w.heap.size C one)
    (D : Option Addr) (two : List UInt8) (c2 : Nat) (h2l : two.length ≤ c2) (h2m : c2 ≤ maxLen) (h2 : Bytes w w.heap.size D two) :
    Calls Try.prog 3 #[.slice A l.length c, .slice B r.length d, .slice C one.length c1, .slice D two.length c2] w fun e w' => e = .returned (.bool true) ∧ Below w.heap.size w w' := by
  obtain ⟨i0, hi0, hz0, hz1, hz2⟩ := info_parts putinfo
  have HI0 := Lib.hid (And.intro hi0 (And.intro hz0 (And.intro hz1 hz2)))
  clear hi0 hz0 hz1 hz2
  have HSl := Lib.hid (small_any w A l c hF (by unfold maxLen at hmx; omega))
  have HSr := Lib.hid (small_any w B r d hG (by unfold maxLen at hmd; omega))
  obtain ⟨n, hn⟩ : ∃ n, l.length = n := ⟨_, rfl⟩
  obtain ⟨m, hm⟩ : ∃ m, r.length = m := ⟨_, rfl⟩
  obtain ⟨n1, hn1⟩ : ∃ n1, one.length = n1 := ⟨_, rfl⟩
  obtain ⟨n2, hn2⟩ : ∃ n2, two.length = n2 := ⟨_, rfl⟩
  rw [hn] at HSl
  rw [hm] at HSr
  rw [hn, hm, hn1, hn2]
  have HL := Lib.hid (And.intro hn (And.intro hF hg))
  have HR := Lib.hid (And.intro hm (And.intro hG hgr))
  have H1 := Lib.hid (And.intro hn1 h1)
  have H2 := Lib.hid (And.intro hn2 h2)
  clear hn hm hn1 hn2 hF hG hg hgr h1 h2 hcl hmx hdl hmd h1l h1m h2l h2m
  go_enter Try.func3, Try.ntmps3
  go_wp2_with fail
  refine HSl.out.mono ?_
  rintro e w' ⟨⟨b, rfl, hs⟩, rfl⟩
  cases b with
  | false =>
    clear hs
    go_wp2_with fail
    refine (works_any w).mono ?_
    rintro e w9 ⟨rfl, hb⟩
    have H9 := Lib.hid hb
    clear hb
    go_wp2_with fail
    go_ret
    exact ⟨rfl, H9.out⟩
  | true =>
    have HS1 := Lib.hid (hs rfl)
    clear hs
    go_wp2_with fail
    refine HSr.out.mono ?_
    rintro e w' ⟨⟨b, rfl, hs⟩, rfl⟩
    cases b with
    | false =>
      clear hs
      go_wp2_with fail
      refine (works_any w).mono ?_
      rintro e w9 ⟨rfl, hb⟩
      have H9 := Lib.hid hb
      clear hb
      go_wp2_with fail
      go_ret
      exact ⟨rfl, H9.out⟩
    | true =>
      have HS2 := Lib.hid (hs rfl)
      have hm40 : (m : Int) ≤ 40 := by have h1 := HS2.out.1; have h2 := HR.out.1; omega
      clear hs
      by_cases h60 : n1 ≤ 60 ∧ n2 ≤ 60
      · obtain ⟨h61, h62⟩ := h60
        have g1 : ¬ (60 : Int) < (n1 : Int) := by omega
        have g2 : ¬ (60 : Int) < (n2 : Int) := by omega
        go_wp2_with fail
        go_loopw [9, 10] (fun o i wr => ∃ (j : Nat) (A2 : Option Addr) (c2 : Nat), i = .int .i64 (j : Int) ∧ o = .slice A2 j c2 ∧ j ≤ m ∧ OthI w r j A2 c2 wr) (fun _ i _ => m - (intOf i).toNat)
        case atStart => exact ⟨0, none, 0, rfl, rfl, Nat.zero_le _, OwnK.nil, Mem.start w⟩
        case round =>
          obtain ⟨j, A2, c2, rfl, rfl, hj, hI⟩ := hrel
          have HI := Lib.hid hI
          clear hI
          obtain ⟨w3, rfl⟩ : ∃ w3 : World, w3 = wr := ⟨_, rfl⟩
          by_cases hjm : j < m
          · obtain ⟨x, hx⟩ : ∃ x, r[j]? = some x := ⟨r[j]'(by rw [HR.out.1]; exact hjm), List.getElem?_eq_getElem _⟩
            obtain ⟨b, off, rfl, hbl, hc0, hc1⟩ := Open.put_at HR.out.2.1 hx
            have h0 : (0 : Int) ≤ (j : Int) := by omega
            have h1 : (j : Int) < (m : Int) := by omega
            have hr3 : (x.i.toNat : Int).tmod 3 = ((oth x).i.toNat : Int) := by rw [Int.tmod_eq_emod_of_nonneg (by omega), oth_i]; omega
            have HX := Lib.hid hx
            have hcw : ∀ w', Below w.heap.size w w' → w'.cell? ⟨b, off + j * 2, none⟩ = some (.int .u8 (x.i.toNat : Int)) ∧ w'.cell? ⟨b, off + j * 2 + 1, none⟩ = some (.slice x.A x.b.length x.c) := fun w' hb => ⟨(hb.cell (p := ⟨b, _, none⟩) hbl).trans hc0, (hb.cell (p := ⟨b, _, none⟩) hbl).trans hc1⟩
            have HCW := Lib.hid hcw
            have HT := Lib.hid (show w3.drew.cell? ⟨b, off + j * 2, none⟩ = some (.int .u8 (x.i.toNat : Int)) ∧ w3.drew.cell? ⟨b, off + j * 2 + 1, none⟩ = some (.slice x.A x.b.length x.c) from hcw _ (nextN HI.out.2 1))
            obtain ⟨i3, hi3⟩ : ∃ i3, (oth x).i = i3 := ⟨_, rfl⟩
            have HI3 := Lib.hid hi3
            obtain ⟨xl, hxl⟩ : ∃ xl, x.b.length = xl := ⟨_, rfl⟩
            have HXL := Lib.hid hxl
            rw [hi3] at hr3
            rw [hxl] at HT HCW
            clear hx hc0 hc1 hbl hcw hi3 hxl
            go_wp2_with fail
            --HELD se7
            refine wp_region_noPanic ?_
            refine wp_heldG (fun w' => w'.cell? ⟨b, off + j * 2, none⟩ = some (.int .u8 (x.i.toNat : Int)) ∧ w'.cell? ⟨b, off + j * 2 + 1, none⟩ = some (.slice x.A xl x.c)) [] (by kernel_rfl) ?hs0 ?rg0
            case hs0 =>
              exact HT.out
            case rg0 =>
            intro hHeld
            refine wpAnyG_pure (i := 0) (oi := { dst := some 44, op := Op.move (Operand.tmp 9), type := 22, pos := _, after := #[], guard := none }) (v := ?_) rfl (by kernel_rfl) (by kernel_rfl) (by kernel_rfl) (by kernel_rfl) (fun _ _ _ h => h) (Or.inl ⟨by rfl, ?_⟩) (fun _ => by assumption) ?_
            rotate_left
            · intro w hSw
              try dsimp only at hSw
              go_simp
              try with_reducible rfl
            try simp only [Act.put, List.setIfInBounds_toArray, List.set_cons_zero, List.set_cons_succ]
            refine wpAnyG_pure (i := 1) (oi := { dst := some 45, op := Op.move (Operand.tmp 1), type := 22, pos := _, after := #[], guard := none }) (v := ?_) rfl (by kernel_rfl) (by kernel_rfl) (by kernel_rfl) (by kernel_rfl) (fun _ _ _ h => h) (Or.inl ⟨by rfl, ?_⟩) (fun _ => by assumption) ?_
            rotate_left
            · intro w hSw
              try dsimp only at hSw
              go_simp
              try with_reducible rfl
            try simp only [Act.put, List.setIfInBounds_toArray, List.set_cons_zero, List.set_cons_succ]
            refine wpAnyG_pure (i := 2) (oi := { dst := some 46, op := Op.move (Operand.tmp 10), type := 3, pos := _, after := #[], guard := none }) (v := ?_) rfl (by kernel_rfl) (by kernel_rfl) (by kernel_rfl) (by kernel_rfl) (fun _ _ _ h => h) (Or.inl ⟨by rfl, ?_⟩) (fun _ => by assumption) ?_
            rotate_left
            · intro w hSw
              try dsimp only at hSw
              go_simp
              try with_reducible rfl
            try simp only [Act.put, List.setIfInBounds_toArray, List.set_cons_zero, List.set_cons_succ]
            refine wpAnyG_pure (i := 3) (oi := { dst := some 47, op := Op.indexAddr 22 (Operand.tmp 45) (Operand.tmp 46), type := 0, pos := _, after := #[{ on := 1, ground := Ground.data }, { on := 2, ground := Ground.data }], guard := none }) (v := ?_) rfl (by kernel_rfl) (by kernel_rfl) (by kernel_rfl) (by kernel_rfl) (fun _ _ _ h => h) (Or.inl ⟨by rfl, ?_⟩) (fun _ => by assumption) ?_
            rotate_left
            · intro w hSw
              try dsimp only at hSw
              go_simp
              try with_reducible rfl
            try simp only [Act.put, List.setIfInBounds_toArray, List.set_cons_zero, List.set_cons_succ]
            refine wpAnyG_pure (i := 4) (oi := { dst := some 48, op := Op.fieldAddr 27 (Operand.tmp 47) 0, type := 0, pos := _, after := #[{ on := 3, ground := Ground.data }], guard := none }) (v := ?_) rfl (by kernel_rfl) (by kernel_rfl) (by kernel_rfl) (by kernel_rfl) (fun _ _ _ h => h) (Or.inl ⟨by rfl, ?_⟩) (fun _ => by assumption) ?_
            rotate_left
            · intro w hSw
              try dsimp only at hSw
              go_simp
              try with_reducible rfl
            try simp only [Act.put, List.setIfInBounds_toArray, List.set_cons_zero, List.set_cons_succ]
            refine wpAnyG_take (i := 5) (oi := { dst := some 49, op := Op.load 5 (Operand.tmp 48), type := 5, pos := _, after := #[{ on := 4, ground := Ground.data }], guard := none }) (v := ?_) rfl (by kernel_rfl) (by kernel_rfl) (by kernel_rfl) (by kernel_rfl) (fun _ _ _ h => h) (Or.inl ⟨by rfl, ?_⟩) (by assumption) ?_
            rotate_left
            · intro w hSw
              try dsimp only at hSw
              go_simp
              try with_reducible rfl
            try simp only [Act.put, List.setIfInBounds_toArray, List.set_cons_zero, List.set_cons_succ]
            refine wpAnyG_pure (i := 6) (oi := { dst := some 50, op := Op.binOp BinOp.rem 5 (Operand.tmp 49) (Operand.const (Value.int IntKind.u8 3)) 5, type := 5, pos := _, after := #[{ on := 5, ground := Ground.data }], guard := none }) (v := ?_) rfl (by kernel_rfl) (by kernel_rfl) (by kernel_rfl) (by kernel_rfl) (fun _ _ _ h => h) (Or.inl ⟨by rfl, ?_⟩) (fun _ => by assumption) ?_
            rotate_left
            · intro w hSw
              try dsimp only at hSw
              go_simp
              try with_reducible rfl
            try simp only [Act.put, List.setIfInBounds_toArray, List.set_cons_zero, List.set_cons_succ]
            refine wpAnyG_pure (i := 7) (oi := { dst := some 51, op := Op.move (Operand.tmp 1), type := 22, pos := _, after := #[], guard := none }) (v := ?_) rfl (by kernel_rfl) (by kernel_rfl) (by kernel_rfl) (by kernel_rfl) (fun _ _ _ h => h) (Or.inl ⟨by rfl, ?_⟩) (fun _ => by assumption) ?_
            rotate_left
            · intro w hSw
              try dsimp only at hSw
              go_simp
              try with_reducible rfl
            try simp only [Act.put, List.setIfInBounds_toArray, List.set_cons_zero, List.set_cons_succ]
            refine wpAnyG_pure (i := 8) (oi := { dst := some 52, op := Op.move (Operand.tmp 10), type := 3, pos := _, after := #[], guard := none }) (v := ?_) rfl (by kernel_rfl) (by kernel_rfl) (by kernel_rfl) (by kernel_rfl) (fun _ _ _ h => h) (Or.inl ⟨by rfl, ?_⟩) (fun _ => by assumption) ?_
            rotate_left
            · intro w hSw
              try dsimp only at hSw
              go_simp
              try with_reducible rfl
            try simp only [Act.put, List.setIfInBounds_toArray, List.set_cons_zero, List.set_cons_succ]
            refine wpAnyG_pure (i := 9) (oi := { dst := some 53, op := Op.indexAddr 22 (Operand.tmp 51) (Operand.tmp 52), type := 0, pos := _, after := #[{ on := 7, ground := Ground.data }, { on := 8, ground := Ground.data }], guard := none }) (v := ?_) rfl (by kernel_rfl) (by kernel_rfl) (by kernel_rfl) (by kernel_rfl) (fun _ _ _ h => h) (Or.inl ⟨by rfl, ?_⟩) (fun _ => by assumption) ?_
            rotate_left
            · intro w hSw
              try dsimp only at hSw
              go_simp
              try with_reducible rfl
            try simp only [Act.put, List.setIfInBounds_toArray, List.set_cons_zero, List.set_cons_succ]
            refine wpAnyG_pure (i := 10) (oi := { dst := some 54, op := Op.fieldAddr 27 (Operand.tmp 53) 1, type := 0, pos := _, after := #[{ on := 9, ground := Ground.data }], guard := none }) (v := ?_) rfl (by kernel_rfl) (by kernel_rfl) (by kernel_rfl) (by kernel_rfl) (fun _ _ _ h => h) (Or.inl ⟨by rfl, ?_⟩) (fun _ => by assumption) ?_
            rotate_left
            · intro w hSw
              try dsimp only at hSw
              go_simp
              try with_reducible rfl
            try simp only [Act.put, List.setIfInBounds_toArray, List.set_cons_zero, List.set_cons_succ]
            refine wpAnyG_take (i := 11) (oi := { dst := some 55, op := Op.load 23 (Operand.tmp 54), type := 23, pos := _, after := #[{ on := 10, ground := Ground.data }], guard := none }) (v := ?_) rfl (by kernel_rfl) (by kernel_rfl) (by kernel_rfl) (by kernel_rfl) (fun _ _ _ h => h) (Or.inl ⟨by rfl, ?_⟩) (by assumption) ?_
            rotate_left
            · intro w hSw
              try dsimp only at hSw
              go_simp
              try with_reducible rfl
            try simp only [Act.put, List.setIfInBounds_toArray, List.set_cons_zero, List.set_cons_succ]
            refine wpAnyG_pure (i := 12) (oi := { dst := some 56, op := Op.build 27 #[(0, Operand.tmp 50), (1, Operand.tmp 55)], type := 27, pos := _, after := #[{ on := 6, ground := Ground.data }, { on := 11, ground := Ground.data }], guard := none }) (v := ?_) rfl (by kernel_rfl) (by kernel_rfl) (by kernel_rfl) (by kernel_rfl) (fun _ _ _ h => h) (Or.inl ⟨by rfl, ?_⟩) (fun _ => by assumption) ?_
            rotate_left
            · intro w hSw
              try dsimp only at hSw
              go_simp
              try with_reducible rfl
            try simp only [Act.put, List.setIfInBounds_toArray, List.set_cons_zero, List.set_cons_succ]
            refine wpAnyG_one (i := 13) (o := { dst := some 57, op := Op.buildSlice 22 1 #[(0, Operand.tmp 56)], type := 22, pos := _, after := #[{ on := 12, ground := Ground.data }], guard := none }) (by kernel_rfl) rfl (fun K hK => ?_)
            go_simp
            try dsimp only
            refine hK.out _ _ ?_ (fun hHeld => ?_)
            · intro _
              try dsimp only
              exact HCW.out _ (nextA (nextN HI.out.2 1) _)
            clear hK K
            try simp only [Act.put, List.setIfInBounds_toArray, List.set_cons_zero, List.set_cons_succ]
            have hHeld := hHeld (by kernel_rfl)
            refine wpAnyG_one (i := 14) (o := { dst := some 58, op := Op.call { callee := Callee.builtin Builtin.append, args := #[Operand.tmp 44, Operand.tmp 57], argTypes := #[22, 22] }, type := 22, pos := _, after := #[{ on := 0, ground := Ground.data }, { on := 13, ground := Ground.data }], guard := none }) (by kernel_rfl) rfl (fun K hK => ?_)
            refine step_appK (w3.drew.alloc (.cells #[.int .u8 (i3.toNat : Int), .slice x.A xl x.c] 27)) rfl (.tmp 44) (.tmp 57) 22 (by rfl) w.heap.size 27 i0 _ 2 32 Try.underlying22 HI0.out.1 HI0.out.2.1 HI0.out.2.2.1 HI0.out.2.2.2 (by rfl) (by decide) A2 c2 j (((r.take j).map oth).flatMap Open.OneP.cells) (by rfl) (HI.out.1.keep (nextA (nextN (Mem.start w3) 1) _)) (w3.heap.size + 1) (some ⟨w3.heap.size, 0, none⟩) 1 1 (oth x).cells (by rfl) ?cl (by rfl) (put_one _) (by unfold maxLen; omega) (by omega) (nextA (nextN HI.out.2 1) _).size (j + 1) rfl ?_
            case cl =>
              rw [show (oth x).cells = [.int .u8 (i3.toNat : Int), .slice x.A xl x.c] from by rw [← HI3.out, ← HXL.out]; rfl]
              exact fun _ => ⟨w3.heap.size, 0, rfl, Nat.lt_succ_self _, fun q v hv => by rw [Nat.zero_add]; exact (new_cell w3.drew _ _ _ q).trans (by rw [← hv]; simp)⟩
            intro A3 c3 w4 ho3 hb3 hg3 hA3
            have H4 := Lib.hid (And.intro ho3 ((nextA (nextN HI.out.2 1) _).trans hb3))
            clear ho3 hb3 hg3 hA3
            try dsimp only
            refine hK.out _ _ ?_ (fun hHeld => ?_)
            · intro _
              try dsimp only
              exact HCW.out _ H4.out.2
            clear hK K
            try simp only [Act.put, List.setIfInBounds_toArray, List.set_cons_zero, List.set_cons_succ]
            have hHeld := hHeld (by kernel_rfl)
            refine wpAnyG_pure (i := 15) (oi := { dst := some 9, op := Op.assign (Operand.tmp 58), type := 22, pos := _, after := #[{ on := 14, ground := Ground.data }, { on := 14, ground := Ground.chain }, { on := 0, ground := Ground.phase }, { on := 1, ground := Ground.phase }, { on := 2, ground := Ground.phase }, { on := 3, ground := Ground.phase }, { on := 4, ground := Ground.phase }, { on := 5, ground := Ground.phase }, { on := 6, ground := Ground.phase }, { on := 7, ground := Ground.phase }, { on := 8, ground := Ground.phase }, { on := 9, ground := Ground.phase }, { on := 10, ground := Ground.phase }, { on := 11, ground := Ground.phase }, { on := 12, ground := Ground.phase }, { on := 13, ground := Ground.phase }, { on := 14, ground := Ground.phase }], guard := none }) (v := ?_) rfl (by kernel_rfl) (by kernel_rfl) (by kernel_rfl) (by kernel_rfl) (fun _ _ _ h => h) (Or.inl ⟨by rfl, ?_⟩) (fun _ => by assumption) ?_
            rotate_left
            · intro w hSw
              try dsimp only at hSw
              go_simp
              try with_reducible rfl
            try simp only [Act.put, List.setIfInBounds_toArray, List.set_cons_zero, List.set_cons_succ]
            refine wpAnyG_done (by kernel_rfl) ?_ _
            refine NoPanic.normal ?_
            --END se7
            go_wp2_with fail
            go_roundw
            case rel =>
              refine ⟨j + 1, A3, c3, rfl, rfl, hjm, ?_, H4.out.2⟩
              rw [take_snoc HX.out, List.map_append, List.flatMap_append]
              show OwnK w4 w.heap.size _ 2 A3 (j + 1) c3 (_ ++ [oth x].flatMap Open.OneP.cells)
              rw [List.flatMap_cons, List.flatMap_nil, List.append_nil]
              exact H4.out.1
            case measure => simp [intOf]; omega
          · obtain rfl : m = j := by omega
            have HO := Lib.hid (show Cells w3 w3.heap.size A2 ((r.map oth).flatMap Open.OneP.cells) ∧ (r.map oth).length = m from ⟨by have := HI.out.1.cells; rwa [← HR.out.1, List.take_length] at this, by rw [List.length_map, HR.out.1]⟩)
            have HD0 := Lib.hid ((DSt.start w).keep HI.out.2)
            have hgo : ∀ x ∈ r.map oth, x.good w3 := fun x hx => by
              obtain ⟨y, hy, rfl⟩ := List.mem_map.1 hx
              exact good_keep HI.out.2 HR.out.2.2 y hy
            have HGO := Lib.hid hgo
            have HM := Lib.hid (show ∀ f (a : Nat), a < 4 → ∀ s : DS, s.n = 4 → (s.crash.on f).may a 0 = 0 from fun f a ha s hs => (on4_on (s := s.crash) hs f rfl).may a ha 0 (by decide))
            obtain ⟨s0, hs0⟩ : ∃ s0, wrOf l (r.map oth) = s0 := ⟨_, rfl⟩
            have h34 := settled3 l r one two
            have h4 := wr4 l (r.map oth)
            have hwd := dwritten HD0.out A A2 l (r.map oth) n m c c2 HL.out.1 HO.out.2 HS1.out (small_oth HS2.out) (cells_keep HI.out.2 HL.out.2.1) HO.out.1 (good_keep HI.out.2 HL.out.2.2) HGO.out
            rw [hs0] at h34 h4 hwd
            have H34 := Lib.hid h34
            have HW4 := Lib.hid h4
            have HWD := Lib.hid hwd
            clear hgo hs0 h34 h4 hwd
            go_wp2_with fail
            refine HWD.out.mono ?_
            rintro e w4 ⟨p1, rfl, h⟩
            have K1 := Lib.hid (show DSt w [(p1, s0)] (fun _ => False) w4 from h)
            clear h
            go_wp2_with fail
            refine (dread2 K1.out (i := 0) rfl 3 i64_3 (HW4.out.may 3 (by decide) 0 (by decide))).mono ?_
            rintro e w5 ⟨g1, rfl, hr, hl, h, hb⟩
            have K2 := Lib.hid (And.intro hr (And.intro hl h))
            clear h hb hr hl
            go_wp2_with fail
            refine (dcrash K2.out.2.2 (i := 0) rfl).mono ?_
            rintro e w6 ⟨rfl, h, hf⟩
            have K3 := Lib.hid (And.intro (Row.keepFr K2.out.1 hf (.inr rfl)) (show DSt w [(p1, s0.crash)] (fun k => False ∨ k = g1) w6 from h))
            clear h hf
            go_wp2_with fail
            refine (don K3.out.2 (i := 0) rfl C one n1 c1 H1.out.1 ((H1.out.2.below K3.out.2.below).up K3.out.2.below.size) (by rw [H1.out.1]; omega)).mono ?_
            rintro e w7 ⟨rfl, h, hf⟩
            have K4 := Lib.hid (And.intro (Row.keepFr K3.out.1 hf (.inr rfl)) (show DSt w [(p1, s0.crash.on one)] (fun k => False ∨ k = g1) w7 from h))
            clear h hf
            go_wp2_with fail
            refine (dread2 K4.out.2 (i := 0) rfl 3 i64_3 (HM.out one 3 (by decide) s0 HW4.out.1)).mono ?_
            rintro e w8 ⟨g2, rfl, hr, hl, h, hb⟩
            have K5 := Lib.hid (And.intro (K4.out.1.keep hb) (And.intro hr (And.intro hl h)))
            clear h hb hr hl
            go_wp2_with fail
            refine (dcrash K5.out.2.2.2 (i := 0) rfl).mono ?_
            rintro e w9 ⟨rfl, h, hf⟩
            have K6 := Lib.hid (And.intro (Row.keepFr K5.out.1 hf (.inl (.inr rfl))) (And.intro (Row.keepFr K5.out.2.1 hf (.inr rfl)) (show DSt w [(p1, (s0.crash.on one).crash)] (fun k => (False ∨ k = g1) ∨ k = g2) w9 from h)))
            clear h hf
            go_wp2_with fail
            refine (don K6.out.2.2 (i := 0) rfl D two n2 _ H2.out.1 ((H2.out.2.below K6.out.2.2.below).up K6.out.2.2.below.size) (by rw [H2.out.1]; omega)).mono ?_
            rintro e w10 ⟨rfl, h, hf⟩
            have K7 := Lib.hid (And.intro (Row.keepFr K6.out.1 hf (.inl (.inr rfl))) (And.intro (Row.keepFr K6.out.2.1 hf (.inr rfl)) (show DSt w [(p1, (s0.crash.on one).crash.on two)] (fun k => (False ∨ k = g1) ∨ k = g2) w10 from h)))
            clear h hf
            go_wp2_with fail
            refine (dread2 K7.out.2.2 (i := 0) rfl 3 i64_3 (HM.out two 3 (by decide) (s0.crash.on one) (on4_on (s := s0.crash) HW4.out.1 one rfl).1)).mono ?_
            rintro e w11 ⟨g3, rfl, hr, hl, h, hb⟩
            have hv1 := convB (rowB (K7.out.1.keep hb)) 256 256 K2.out.2.1.symm
            have hv2 := convB (rowB (K7.out.2.1.keep hb)) 256 256 K5.out.2.2.1.symm
            have hv3 := convB (rowB hr) 256 256 hl.symm
            rw [H34.out.1] at hv2
            rw [H34.out.2] at hv3
            obtain ⟨v, hv⟩ : ∃ v, str (s0.N 3) = v := ⟨_, rfl⟩
            rw [hv] at hv1 hv2 hv3
            have HB := Lib.hid h.below
            clear h hb hr hl hv
            go_wp2_with fail
            refine (works_any w11).mono ?_
            rintro e w12 ⟨rfl, hb⟩
            have H12 := Lib.hid (next HB.out hb)
            clear hb
            go_wp2_with fail
            go_ret
            exact ⟨rfl, H12.out⟩
      · by_cases h61 : n1 ≤ 60
        · have g1 : ¬ (60 : Int) < (n1 : Int) := by omega
          have g2 : (60 : Int) < (n2 : Int) := by omega
          clear h60
          go_wp2_with fail
          refine (works_any w).mono ?_
          rintro e w9 ⟨rfl, hb⟩
          have H9 := Lib.hid hb
          clear hb
          go_wp2_with fail
          go_ret
          exact ⟨rfl, H9.out⟩
        · have g1 : (60 : Int) < (n1 : Int) := by omega
          clear h60
          go_wp2_with fail
          refine (works_any w).mono ?_
          rintro e w9 ⟨rfl, hb⟩
          have H9 := Lib.hid hb
          clear hb
          go_wp2_with fail
          go_ret
          exact ⟨rfl, H9.out⟩
end Go.Proofs.Ytjpelifafmkdpaa.DkW
