/- append of a text onto a row of one's own. -/
import Derived.Test.YtebdmfmadbikaaaDoorWrDocB
namespace Go.Proofs.YtebdmfmadbikaaaDoor.WiW
open Go.RowKit Go.Shelf Mem Fds FdW Wi Rng
set_option linter.unusedVariables false
set_option linter.unusedSimpArgs false

theorem setAll_size : ∀ (l : List Value) (cs : Array Value) (k : Nat), (setAll cs k l).size = cs.size
  | [], cs, k => rfl
  | v :: l, cs, k => by simp only [setAll]; rw [setAll_size l]; simp
theorem setAll_take : ∀ (l : List Value) (cs : Array Value) (k : Nat), k + l.length ≤ cs.size → (setAll cs k l).toList.take (k + l.length) = cs.toList.take k ++ l
  | [], cs, k, _ => by simp [setAll]
  | v :: l, cs, k, h => by
    simp only [List.length_cons] at h ⊢
    simp only [setAll]
    rw [show k + (l.length + 1) = (k + 1) + l.length by omega, setAll_take l _ (k + 1) (by simp; omega)]
    rw [Array.toList_setIfInBounds, List.take_set, List.take_succ_eq_append_getElem (by simp; omega)]
    rw [List.set_append_right _ _ (by simp; omega)]
    simp [Nat.min_eq_left (show k ≤ cs.size by omega)]
theorem first_str (P : Program) (w : World) (s : List UInt8) (n : Nat) (hn : n = s.length) : (Builtin.firstCells 1 n (.string (str s))).run P w = .ok (s.map u8v).toArray w := by
  subst hn
  simp only [Builtin.firstCells, Sem.run_pure]
  have hx : ((str s).extract 0 s.length).data = s.toArray := by
    rw [ByteArray.data_extract]
    show s.toArray.extract 0 s.length = s.toArray
    have : s.length = s.toArray.size := by simp
    rw [this, Array.extract_size]
  rw [hx]
  simp [u8v]
theorem run_apps {P : Program} (w : World) (t u ty e : TypeId) (i : TypeInfo) (z : Value) (ht : P.underlying t = some (.slice e)) (hu : P.underlying u = some .string) (hi : P.info? e = some i) (hz : i.zero = some z) (hsize : i.size = 1) (hby : i.bytes = 1) (hzs : z.cells.size = 1)
    (base g c : Nat) (l s : List UInt8) (hown : Mem.Own w base e (some ⟨g, 0, none⟩) c (l.map u8v)) (hb : base ≤ w.heap.size) (hm : l.length + s.length ≤ 100000000) :
    ∃ A' c' w', (Builtin.append_ #[t, u] ty #[.slice (some ⟨g, 0, none⟩) l.length c, .string (str s)]).run P w = .ok (.slice A' (l.length + s.length) c') w' ∧ Mem.Own w' base e A' c' ((l ++ s).map u8v) ∧ Below base w w' := by
  obtain ⟨m, hsm⟩ : ∃ m, s.length = m := ⟨_, rfl⟩
  have hlen : (str s).size = m := hsm
  rcases hown.form with ⟨h, _⟩ | ⟨g', h, hgb, hglt, hle, hmx⟩
  · cases h
  injection h with h; injection h with h; subst h
  rw [List.length_map] at hle
  by_cases hroom : l.length + m ≤ c
  · rcases hown.2 with ⟨hv, _⟩ | ⟨g2, cap, cur, hv, hbg, hh, hnc, hm2, hcs, ht2⟩
    · cases hv
    · injection hv with h1 _ h3
      injection h1 with h1; injection h1 with h1
      subst h1; subst h3
      rw [List.length_map, Nat.mul_one] at ht2
      rw [Nat.mul_one] at hcs
      have hblk : Blk w g e cur := hh
      have hf := first_str P w s m hsm.symm
      have hst := run_storeCells_cells (P := P) g (l.length * i.size) (s.map u8v) 0 w (fun j hj => by
          rw [hsize, Nat.mul_one]
          rw [List.length_map] at hj
          rw [hblk.cell, Array.getElem?_eq_getElem (by omega)]; rfl) (fun j hj => hblk.frozen _) (fun v hv => by obtain ⟨_, _, rfl⟩ := List.mem_map.1 hv; rfl)
      rw [Nat.add_zero, hsize, Nat.mul_one] at hst
      refine ⟨some ⟨g, 0, none⟩, c, w.setCells g l.length (s.map u8v), ?_, ?_, ?_⟩
      · rw [hsm]
        simp [Builtin.append_, run_underlying ht, run_underlying hu, sizeOf, typeInfo, hi, hsize, Builtin.lenOf, hlen, hroom, Addr.add_lit, hf, hst]
      · have h4 := blk_setCells (s.map u8v) l.length w cur hblk
        have hsz := setAll_size (s.map u8v) cur l.length
        refine ⟨by simp, .inr ⟨g, c, setAll cur l.length (s.map u8v), by simp, hbg, h4, by simp; omega, hm2, by rw [hsz, Nat.mul_one]; exact hcs, ?_⟩⟩
        rw [List.map_append, Nat.mul_one, List.length_append, List.length_map]
        rw [setAll_take _ _ _ (by rw [List.length_map]; omega), ht2]
      · exact (fr_setCells (S := fun k => k = g) rfl (s.map u8v) l.length w (Fr.refl _ w)).below hb fun k hk => by omega
  · have holds : ∀ j v, (l.map u8v)[j]? = some v → w.cell? ((⟨g, 0, none⟩ : Addr).add j) = some v := fun j v hj => World.ownsRow.cells (g := g) hown rfl j v hj
    have hn : ¬ (l.length + m ≤ c) := hroom
    have h63' : ¬ (9223372036854775807 < ((l.length : Int) + (m : Int))) := by omega
    have hfit := growslice_fits (need := l.length + m) (old := c) (bytes := i.bytes) (by omega) (by rw [hby]; omega)
    have h48' : ¬ (281474976710656 < Builtin.nextslicecap (l.length + m) c * i.bytes) := by omega
    have hf := first_str P w.drew s m hsm.symm
    have hfo := run_firstCells_some (P := P) w.drew i.size l.length ⟨g, 0, none⟩ l.length c (l.map u8v) (by rw [hsize]; simp) (by simpa using holds)
    rw [hsize] at hfo
    refine ⟨some ⟨w.heap.size, 0, none⟩, grownCap w (l.length + m) c e, w.drew.alloc (.cells ((l.map u8v).toArray ++ (s.map u8v).toArray ++ Builtin.zeroCells z.cells (grownCap w (l.length + m) c e - (l.length + m))) e), ?_, ?_, ?_⟩
    · rw [hsm]
      simp [Builtin.append_, run_underlying ht, run_underlying hu, sizeOf, typeInfo, zeroValue, hi, hz, hsize, Builtin.lenOf, hlen, hn, h63', h48', Question.forced, hf, hfo, newRow, grownCap]
      congr 2
      apply Array.ext'
      simp [List.append_assoc]
    · obtain ⟨C, hC⟩ : ∃ C, (l.map u8v).toArray ++ (s.map u8v).toArray ++ Builtin.zeroCells z.cells (grownCap w (l.length + m) c e - (l.length + m)) = C := ⟨_, rfl⟩
      have hge := grownCap_ge w (l.length + m) c e
      have hcs : C.size = grownCap w (l.length + m) c e := by
        rw [← hC]
        simp [Builtin.zeroCells, hzs, hsm]
        omega
      have hmax := grownCap_le_maxLen w (l.length + m) c e (by unfold maxLen; omega)
      have h1 := (own_made w.drew C e (by rw [hcs]; exact hmax) (base := base) hb).take (l.length + m)
      have h2 : C.toList.take (l.length + m) = (l ++ s).map u8v := by
        rw [← hC, Array.toList_append, Array.toList_append, List.take_append_of_le_length (by simp; omega)]
        rw [List.take_of_length_le (by simp; omega)]
        simp
      rw [h2, hcs] at h1
      rw [hC]; exact h1
    · have h0 : Below base w w.drew := ⟨rfl, rfl, rfl, Nat.le_refl _, fun _ _ => rfl⟩
      exact h0.trans ((Below.refl base w.drew).alloc hb _)
theorem u8inf17 : (Tryd.prog.info? 5).map (fun i => (i.zero, i.size, i.bytes)) = some (some (.int .u8 0), 1, 1) := by kernel_rfl
/-- The walk's law. -/
theorem wpList_apps {ops : Array Oper} {rest : List Oper} {o : Oper} {a : Act} {Q : Exit → Act → World → Prop} (w : World) (hgd : o.guard = none) (s x : Operand) (ho : o.op = .call { callee := .builtin .append, args := #[s, x], argTypes := #[25, 9] })
    (base g n c : Nat) (l t : List UInt8) (hs : a.eval s = .slice (some ⟨g, 0, none⟩) n c) (hn : n = l.length) (hx : a.eval x = .string (str t)) (hown : Mem.Own w base 5 (some ⟨g, 0, none⟩) c (l.map u8v)) (hb : base ≤ w.heap.size) (hm : l.length + t.length ≤ 100000000)
    (h : ∀ A' c' w', Mem.Own w' base 5 A' c' ((l ++ t).map u8v) → Below base w w' → wpList Tryd.prog ops Q rest (a.put o.dst (.slice A' (l ++ t).length c')) w') : wpList Tryd.prog ops Q (o :: rest) a w := by
  subst hn
  obtain ⟨i0, hi0, hz0, hz1, hz2⟩ := info_parts u8inf17
  obtain ⟨A', c', w', hrun, h2, h3⟩ := run_apps (P := Tryd.prog) w 25 9 o.type 5 i0 (.int .u8 0) Tryd.underlying25 Tryd.underlying9 hi0 hz0 hz1 hz2 rfl base g c l t hown hb hm
  refine wpList_plain hgd fun K hK => ?_
  unfold Oper.wp execOp
  simp only [ho, resolve, invoke, builtin, Sem.run_bind, Sem.run_pure, Result.andThen_ok, List.map_toArray, List.map_cons, List.map_nil, hs, hx, hrun]
  rw [← List.length_append]
  exact hK _ _ (h A' c' w' h2 h3)
/-- The document's number, and its text. -/
theorem wrap_u64 {n : Int} (h0 : 0 ≤ n) (h1 : n ≤ 4611686018427387904) : IntKind.u64.wrap n = ((n.toNat : Nat) : Int) := by
  have e : ∀ x : Int, IntKind.u64.wrap x = x % 18446744073709551616 := fun _ => rfl
  rw [e]; omega
theorem lt256 {n : Int} (h0 : 0 ≤ n) (h1 : n ≤ 4611686018427387904) : n.toNat < 256 ^ 8 := by
  have : (256 : Nat) ^ 8 = 18446744073709551616 := by decide
  omega
theorem rnumber1_any (w : World) (n : Int) (h0 : 0 ≤ n) (h1 : n ≤ 4611686018427387904) : Calls Tryd.prog 25 #[.int .i64 n, .int .i64 1] w (NewOk w (be 1 n.toNat)) := by
  have hw := wrap_u64 h0 h1
  have HL := Lib.hid (lt256 h0 h1)
  obtain ⟨k, hk⟩ : ∃ k, n.toNat = k := ⟨_, rfl⟩
  rw [hk] at hw HL ⊢
  clear h0 h1 hk
  go_enter Tryd.func25, Tryd.ntmps25
  go_wp2_with fail
  refine (bytes1_any w k HL.out).mono ?_
  rintro e w1 ⟨A1, c1, rfl, ho, hb⟩
  have HO := Lib.hid (And.intro ho hb)
  clear ho hb hw
  go_wp2_with fail
  go_ret
  exact ⟨A1, c1, rfl, HO.out.1, HO.out.2⟩
theorem rnumber2_any (w : World) (n : Int) (h0 : 0 ≤ n) (h1 : n ≤ 4611686018427387904) : Calls Tryd.prog 25 #[.int .i64 n, .int .i64 2] w (NewOk w (be 2 n.toNat)) := by
  have hw := wrap_u64 h0 h1
  have HL := Lib.hid (lt256 h0 h1)
  obtain ⟨k, hk⟩ : ∃ k, n.toNat = k := ⟨_, rfl⟩
  rw [hk] at hw HL ⊢
  clear h0 h1 hk
  go_enter Tryd.func25, Tryd.ntmps25
  go_wp2_with fail
  refine (bytes2_any w k HL.out).mono ?_
  rintro e w1 ⟨A1, c1, rfl, ho, hb⟩
  have HO := Lib.hid (And.intro ho hb)
  clear ho hb hw
  go_wp2_with fail
  go_ret
  exact ⟨A1, c1, rfl, HO.out.1, HO.out.2⟩
theorem rnumber4_any (w : World) (n : Int) (h0 : 0 ≤ n) (h1 : n ≤ 4611686018427387904) : Calls Tryd.prog 25 #[.int .i64 n, .int .i64 4] w (NewOk w (be 4 n.toNat)) := by
  have hw := wrap_u64 h0 h1
  have HL := Lib.hid (lt256 h0 h1)
  obtain ⟨k, hk⟩ : ∃ k, n.toNat = k := ⟨_, rfl⟩
  rw [hk] at hw HL ⊢
  clear h0 h1 hk
  go_enter Tryd.func25, Tryd.ntmps25
  go_wp2_with fail
  refine (bytes4_any w k HL.out).mono ?_
  rintro e w1 ⟨A1, c1, rfl, ho, hb⟩
  have HO := Lib.hid (And.intro ho hb)
  clear ho hb hw
  go_wp2_with fail
  go_ret
  exact ⟨A1, c1, rfl, HO.out.1, HO.out.2⟩
theorem rnumber8_any (w : World) (n : Int) (h0 : 0 ≤ n) (h1 : n ≤ 4611686018427387904) : Calls Tryd.prog 25 #[.int .i64 n, .int .i64 8] w (NewOk w (be 8 n.toNat)) := by
  have hw := wrap_u64 h0 h1
  have HL := Lib.hid (lt256 h0 h1)
  obtain ⟨k, hk⟩ : ∃ k, n.toNat = k := ⟨_, rfl⟩
  rw [hk] at hw HL ⊢
  clear h0 h1 hk
  go_enter Tryd.func25, Tryd.ntmps25
  go_wp2_with fail
  refine (bytes8_any w k HL.out).mono ?_
  rintro e w1 ⟨A1, c1, rfl, ho, hb⟩
  have HO := Lib.hid (And.intro ho hb)
  clear ho hb hw
  go_wp2_with fail
  go_ret
  exact ⟨A1, c1, rfl, HO.out.1, HO.out.2⟩
/-- A text is there: its length and its bytes. -/
theorem rtext1_any (w : World) (s : List UInt8) (hs : s.length ≤ 1000000) : Calls Tryd.prog 27 #[.string (str s), .int .i64 1] w (NewOk w (be 1 s.length ++ s)) := by
  obtain ⟨n, hn⟩ : ∃ n, s.length = n := ⟨_, rfl⟩
  have hz : (str s).size = n := hn
  have HN := Lib.hid (And.intro hn (show n ≤ 1000000 by omega))
  rw [hn]
  clear hn hs
  go_enter Tryd.func27, Tryd.ntmps27
  go_wp2_with fail
  refine (rnumber1_any w (n : Int) (by omega) (by have := HN.out.2; omega)).mono ?_
  rintro e w1 ⟨A1, c1, rfl, ho, hb⟩
  rw [Int.toNat_natCast] at ho ⊢
  rcases ho.form with ⟨_, _, h⟩ | ⟨g, rfl, _⟩
  · have := congrArg List.length h
    rw [List.length_map, be_len] at this
    cases this
  · have HO := Lib.hid (And.intro ho hb)
    rw [be_len]
    clear ho hb
    go_wp2_with ((with_reducible show wpList _ _ _ ((⟨some 10, _, _, _, _, _⟩ : Oper) :: _) _ _); refine wpList_apps w1 rfl (.tmp 8) (.tmp 9) rfl w.heap.size g 1 c1 (be 1 n) s rfl (by rw [be_len]) rfl HO.out.1 HO.out.2.size (by rw [be_len]; have := HN.out; omega) ?_; intro A2 c2 w2 ho2 hb2; have H2 := Lib.hid (And.intro ho2 hb2); clear ho2 hb2)
    go_ret
    exact ⟨A2, c2, by simp [be_len], H2.out.1, HO.out.2.trans H2.out.2⟩
theorem rtext4_any (w : World) (s : List UInt8) (hs : s.length ≤ 1000000) : Calls Tryd.prog 27 #[.string (str s), .int .i64 4] w (NewOk w (be 4 s.length ++ s)) := by
  obtain ⟨n, hn⟩ : ∃ n, s.length = n := ⟨_, rfl⟩
  have hz : (str s).size = n := hn
  have HN := Lib.hid (And.intro hn (show n ≤ 1000000 by omega))
  rw [hn]
  clear hn hs
  go_enter Tryd.func27, Tryd.ntmps27
  go_wp2_with fail
  refine (rnumber4_any w (n : Int) (by omega) (by have := HN.out.2; omega)).mono ?_
  rintro e w1 ⟨A1, c1, rfl, ho, hb⟩
  rw [Int.toNat_natCast] at ho ⊢
  rcases ho.form with ⟨_, _, h⟩ | ⟨g, rfl, _⟩
  · have := congrArg List.length h
    rw [List.length_map, be_len] at this
    cases this
  · have HO := Lib.hid (And.intro ho hb)
    rw [be_len]
    clear ho hb
    go_wp2_with ((with_reducible show wpList _ _ _ ((⟨some 10, _, _, _, _, _⟩ : Oper) :: _) _ _); refine wpList_apps w1 rfl (.tmp 8) (.tmp 9) rfl w.heap.size g 4 c1 (be 4 n) s rfl (by rw [be_len]) rfl HO.out.1 HO.out.2.size (by rw [be_len]; have := HN.out; omega) ?_; intro A2 c2 w2 ho2 hb2; have H2 := Lib.hid (And.intro ho2 hb2); clear ho2 hb2)
    go_ret
    exact ⟨A2, c2, by simp [be_len], H2.out.1, HO.out.2.trans H2.out.2⟩
end Go.Proofs.YtebdmfmadbikaaaDoor.WiW
