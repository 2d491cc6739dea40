/- The law ShareBack, walked. -/
import Derived.Test.YtlmcmcafbepjmaaShBm
import Derived.Test.YtlmcmcafbepjmaaBapp
namespace Go.Proofs.Ytlmcmcafbepjmaa.ShW
open Go.RowKit Go.Shelf Mem Fds Bv Rng
set_option linter.unusedVariables false

theorem u8inf2 : (Try.prog.info? 5).map (fun i => (i.zero, i.size, i.bytes)) = some (some (.int .u8 0), 1, 1) := by kernel_rfl
/-- The share in its variable, its bytes, the caller's bytes. -/
structure Bst (w W : World) (bx : Nat) (s : Sh) (A : Option Addr) (n c : Nat) (v e : Int) (B : Option Addr) (m d : Nat) (D : Option Addr) (b : List UInt8) : Prop where
  below : Below w.heap.size w W
  box : Blk W bx 24 #[.slice A n c, .int .i64 v, .int .i64 e, .slice B m d]
  ltr : Ltr W s A n v e B m
  arg : Bytes W W.heap.size D b
theorem Bst.keep {w W W' : World} {bx : Nat} {s : Sh} {A : Option Addr} {n c : Nat} {v e : Int} {B : Option Addr} {m d : Nat} {D : Option Addr} {b : List UInt8} (h : Bst w W bx s A n c v e B m d D b) (hb : Below W.heap.size W W') : Bst w W' bx s A n c v e B m d D b := ⟨next h.below hb, h.box.keep hb, h.ltr.keep hb, (h.arg.below hb).up hb.size⟩
theorem xor_u8 (x y : UInt8) : bits .xor .u8 (x.toNat : Int) (y.toNat : Int) = ((x ^^^ y).toNat : Int) := by rw [u8_xor_nat _ _ x.toNat_lt y.toNat_lt, UInt8.toNat_xor]
theorem own_block {w : World} {base c : Nat} {T : TypeId} {A : Option Addr} {xs : List Value} (h : Mem.Own w base T A c xs) (hl : 0 < xs.length) : ∃ q, A = some ⟨q, 0, none⟩ ∧ base ≤ q := by
  rcases h.form with ⟨_, _, h⟩ | ⟨q, h, h2, _⟩
  · rw [h] at hl; simp at hl
  · exact ⟨q, h, h2⟩
theorem putC {W : World} {s : Sh} {A B : Option Addr} {n m : Nat} {v e : Int} (h : Ltr W s A n v e B m) (hv : v ≤ 9223372036854775807) (c d : Nat) : Calls Try.prog 10 #[.agg #[.slice A n c, .int .i64 v, .int .i64 e, .slice B m d]] W (PutS W s) := by
  have := put_any W s (by rw [h.v]; exact hv) A B n c m d h.n h.m h.key h.row
  rwa [h.v, h.e] at this
set_option maxRecDepth 100000 in
set_option maxHeartbeats 16000000 in
theorem back_no (w : World) (s : Sh) (A : Option Addr) (n c : Nat) (v e : Int) (B : Option Addr) (m d : Nat) (hl : Ltr w s A n v e B m) (hv : v ≤ 9223372036854775807) (at_ cut : Int) (y : UInt8) (D : Option Addr) (b : List UInt8) (nb db : Nat) (hnb : b.length = nb) (hdb : nb ≤ db) (hb : Bytes w w.heap.size D b) (hf : fewN n m = false) : Calls Try.prog 6 #[.agg #[.slice A n c, .int .i64 v, .int .i64 e, .slice B m d], .int .i64 at_, .int .u8 (y.toNat : Int), .int .i64 cut, .slice D nb db] w fun z w' => z = .returned (.bool true) ∧ Below w.heap.size w w' := by
  obtain ⟨w1, hw1⟩ : ∃ x : World, w.alloc (.cells #[.slice A n c, .int .i64 v, .int .i64 e, .slice B m d] 24) = x := ⟨_, rfl⟩
  obtain ⟨bx, hbx⟩ : ∃ bx, w.heap.size = bx := ⟨_, rfl⟩
  have H1 := Lib.hid (show Bst w w1 bx s A n c v e B m d D b from by
    have hb1 : Below w.heap.size w w1 := by rw [← hw1]; exact nextA (Mem.start w) _
    exact ⟨hb1, by rw [← hw1, ← hbx]; exact Blk.new w _ _, hl.keep hb1, (hb.below hb1).up hb1.size⟩)
  have HW1 := Lib.hid hw1
  clear hw1 hl hb
  go_enter Try.func6, Try.ntmps6
  go_wp2_with fail
  rw [HW1.out]
  refine (few_any _ v e A B n c m d).mono ?_
  rintro z w2 ⟨rfl, hbl⟩
  have H2 := Lib.hid (H1.out.keep hbl)
  clear hbl
  rw [show decide (n ≤ 100 ∧ m ≤ 400) = false from hf]
  go_wp2_with fail
  refine (works_any _).mono ?_
  rintro z w99 ⟨rfl, hbl⟩
  have H99 := Lib.hid (next H2.out.below hbl)
  clear hbl
  go_wp2_with fail
  go_ret
  exact ⟨rfl, H99.out⟩
set_option maxRecDepth 100000 in
set_option maxHeartbeats 16000000 in
theorem back_big (w : World) (s : Sh) (A : Option Addr) (n c : Nat) (v e : Int) (B : Option Addr) (m d : Nat) (hl : Ltr w s A n v e B m) (hv : v ≤ 9223372036854775807) (at_ cut : Int) (y : UInt8) (D : Option Addr) (b : List UInt8) (nb db : Nat) (hnb : b.length = nb) (hdb : nb ≤ db) (hb : Bytes w w.heap.size D b) (hf : fewN n m = true) (h6 : 600 < nb) : Calls Try.prog 6 #[.agg #[.slice A n c, .int .i64 v, .int .i64 e, .slice B m d], .int .i64 at_, .int .u8 (y.toNat : Int), .int .i64 cut, .slice D nb db] w fun z w' => z = .returned (.bool true) ∧ Below w.heap.size w w' := by
  have h6i : (600 : Int) < (nb : Int) := by omega
  obtain ⟨w1, hw1⟩ : ∃ x : World, w.alloc (.cells #[.slice A n c, .int .i64 v, .int .i64 e, .slice B m d] 24) = x := ⟨_, rfl⟩
  obtain ⟨bx, hbx⟩ : ∃ bx, w.heap.size = bx := ⟨_, rfl⟩
  have H1 := Lib.hid (show Bst w w1 bx s A n c v e B m d D b from by
    have hb1 : Below w.heap.size w w1 := by rw [← hw1]; exact nextA (Mem.start w) _
    exact ⟨hb1, by rw [← hw1, ← hbx]; exact Blk.new w _ _, hl.keep hb1, (hb.below hb1).up hb1.size⟩)
  have HW1 := Lib.hid hw1
  clear hw1 hl hb
  go_enter Try.func6, Try.ntmps6
  go_wp2_with fail
  rw [HW1.out]
  refine (few_any _ v e A B n c m d).mono ?_
  rintro z w2 ⟨rfl, hbl⟩
  have H2 := Lib.hid (H1.out.keep hbl)
  clear hbl
  rw [show decide (n ≤ 100 ∧ m ≤ 400) = true from hf]
  go_wp2_with fail
  refine (works_any _).mono ?_
  rintro z w99 ⟨rfl, hbl⟩
  have H99 := Lib.hid (next H2.out.below hbl)
  clear hbl
  go_wp2_with fail
  go_ret
  exact ⟨rfl, H99.out⟩
set_option maxRecDepth 100000 in
set_option maxHeartbeats 16000000 in
theorem back_yes (w : World) (s : Sh) (A : Option Addr) (n c : Nat) (v e : Int) (B : Option Addr) (m d : Nat) (hl : Ltr w s A n v e B m) (hv : v ≤ 9223372036854775807) (at_ cut : Int) (y : UInt8) (D : Option Addr) (b : List UInt8) (nb db : Nat) (hnb : b.length = nb) (hdb : nb ≤ db) (hb : Bytes w w.heap.size D b) (hf : fewN n m = true) (h6 : nb ≤ 600) : Calls Try.prog 6 #[.agg #[.slice A n c, .int .i64 v, .int .i64 e, .slice B m d], .int .i64 at_, .int .u8 (y.toNat : Int), .int .i64 cut, .slice D nb db] w fun z w' => z = .returned (.bool true) ∧ Below w.heap.size w w' := by
  have h6i : (nb : Int) ≤ 600 := by omega
  have HFF := Lib.hid (fewN_iff.1 hf)
  have HVV := Lib.hid hv
  have HNB := Lib.hid (And.intro hnb (And.intro hdb h6))
  clear hv
  obtain ⟨w1, hw1⟩ : ∃ x : World, w.alloc (.cells #[.slice A n c, .int .i64 v, .int .i64 e, .slice B m d] 24) = x := ⟨_, rfl⟩
  obtain ⟨bx, hbx⟩ : ∃ bx, w.heap.size = bx := ⟨_, rfl⟩
  have H1 := Lib.hid (show Bst w w1 bx s A n c v e B m d D b from by
    have hb1 : Below w.heap.size w w1 := by rw [← hw1]; exact nextA (Mem.start w) _
    exact ⟨hb1, by rw [← hw1, ← hbx]; exact Blk.new w _ _, hl.keep hb1, (hb.below hb1).up hb1.size⟩)
  have HW1 := Lib.hid hw1
  clear hw1 hl hb
  go_enter Try.func6, Try.ntmps6
  go_wp2_with fail
  rw [HW1.out]
  refine (few_any _ v e A B n c m d).mono ?_
  rintro z w2 ⟨rfl, hbl⟩
  have H2 := Lib.hid (H1.out.keep hbl)
  clear hbl
  rw [show decide (n ≤ 100 ∧ m ≤ 400) = true from hf]
  clear hf hnb hdb h6 H1 HW1
  obtain ⟨t, zt, hgt⟩ := got_any b
  have HG := Lib.hid hgt
  clear hgt
  go_wp2_with fail
  refine (get_any w2 D b nb db HNB.out.1 (by have := HNB.out; omega) HNB.out.2.1 H2.out.arg).mono ?_
  rintro z w3 hp
  obtain ⟨A0, c0, B0, d0, rfl, hk1, hk2, hbl⟩ := getS_at HG.out hp
  have H3 := Lib.hid (And.intro (H2.out.keep hbl) (And.intro hk1 hk2))
  clear hp hbl hk1 hk2
  obtain ⟨tn, htn⟩ : ∃ x, t.key.length = x := ⟨_, rfl⟩
  obtain ⟨tm, htm⟩ : ∃ x, t.row.length = x := ⟨_, rfl⟩
  obtain ⟨tv, htv⟩ : ∃ x, t.ver = x := ⟨_, rfl⟩
  obtain ⟨te, hte⟩ : ∃ x, t.node = x := ⟨_, rfl⟩
  rw [htn, htm, htv, hte]
  have HT := Lib.hid (And.intro htn (And.intro htm (And.intro htv hte)))
  clear htn htm htv hte
  obtain ⟨w4, hwx⟩ : ∃ x : World, w3.alloc (.cells #[.slice A0 tn c0, .int .i64 tv, .int .i64 te, .slice B0 tm d0] 24) = x := ⟨_, rfl⟩
  have hbl : Below w3.heap.size w3 w4 := by rw [← hwx]; exact nextA (Mem.start w3) _
  have HVt := Lib.hid (show Blk w4 w3.heap.size 24 #[.slice A0 tn c0, .int .i64 tv, .int .i64 te, .slice B0 tm d0] from by rw [← hwx]; exact Blk.new w3 _ _)
  have H4 := Lib.hid (And.intro (H3.out.1.keep hbl) (And.intro (H3.out.2.1.keep hbl) (H3.out.2.2.keep hbl)))
  have HWT := Lib.hid hwx
  clear hbl hwx H3 H2
  rcases HG.out with ⟨rfl, hsh⟩ | ⟨rfl, _, _⟩
  · have HSH := Lib.hid hsh
    clear hsh
    obtain ⟨x0, x1, x2, x3⟩ := cells4 HVt.out
    rw [← HWT.out] at x0 x1 x2 x3
    have hp := putC (W := w4) (s := t) (n := tn) (v := tv) (e := te) (m := tm) ⟨HT.out.1, HT.out.2.1, HT.out.2.2.1, HT.out.2.2.2, H4.out.2.1.bytes, H4.out.2.2.bytes⟩ (by rw [← HT.out.2.2.1]; exact HSH.out.2.2) c0 d0
    go_wp2_with fail
    rw [HWT.out]
    refine hp.mono ?_
    clear hp x0 x1 x2 x3
    rintro z w5 ⟨h1, _, hbl⟩
    obtain ⟨A1, c1, rfl, ho⟩ := h1 HSH.out.1
    rw [HSH.out.2.1] at ho ⊢
    rw [HNB.out.1]
    have H5 := Lib.hid (And.intro (H4.out.1.keep hbl) ho.bytes)
    clear h1 hbl ho
    go_wp2_with fail
    refine (sameBytes_any w5 _ D b b nb c1 nb db w5.heap.size w5.heap.size HNB.out.1 HNB.out.1 H5.out.2 H5.out.1.arg).mono ?_
    rintro z w' ⟨rfl, rfl⟩
    rw [show decide (b = b) = true from by simp]
    have H0 := Lib.hid H5.out.1
    clear H5 H4 HWT HVt
    skip
    obtain ⟨x0, x1, x2, x3⟩ := cells4 H0.out.box
    have hp := putC H0.out.ltr HVV.out c d
    go_wp2_with fail
    refine hp.mono ?_
    clear hp x0 x1 x2 x3
    rintro z w10 ⟨h1, h2, hbl⟩
    have H10 := Lib.hid (H0.out.keep hbl)
    by_cases hmay : s.may = true
    · obtain ⟨A1, c1, rfl, ho⟩ := h1 hmay
      have HS := Lib.hid (share_put hmay (by rw [H0.out.ltr.v]; exact HVV.out))
      have hps : s.put.length ≤ 600 := by have := put_len s; have h1 := H0.out.ltr.n; have h2 := H0.out.ltr.m; have h3 := HFF.out; omega
      have hpg : 18 ≤ s.put.length := by have := put_len s; omega
      obtain ⟨p, hpp⟩ : ∃ p, s.put = p := ⟨_, rfl⟩
      rw [hpp] at hps hpg ho HS ⊢
      obtain ⟨pl, hpl⟩ : ∃ x, p.length = x := ⟨_, rfl⟩
      rw [hpl] at hps hpg ⊢
      obtain ⟨q, hq, hqb⟩ := own_block ho (by rw [List.length_map, hpl]; omega)
      subst hq
      have hoc : pl ≤ c1 := by have := ho.le; rw [List.length_map, hpl] at this; exact this
      have HO := Lib.hid ho
      have HPL := Lib.hid (And.intro hpl (And.intro hps (And.intro hpg (And.intro hoc hqb))))
      have i0 : (0 : Int) < (pl : Int) := by omega
      clear h1 h2 hbl hmay ho hpp hpl hps hpg hqb hoc
      go_wp2_with fail
      refine (get_any w10 _ p pl c1 HPL.out.1 (by have := HPL.out; omega) HPL.out.2.2.2.1 HO.out.bytes).mono ?_
      rintro z w11 hp
      obtain ⟨A2, c2, B2, d2, rfl, hk1, hk2, hbl⟩ := getS_at (.inl ⟨rfl, HS.out⟩) hp
      rw [H0.out.ltr.n, H0.out.ltr.m, H0.out.ltr.v, H0.out.ltr.e]
      have H11 := Lib.hid (And.intro (H10.out.keep hbl) (And.intro (HO.out.keep hbl) (And.intro hk1 hk2)))
      clear hp hbl hk1 hk2
      obtain ⟨w12, hwx⟩ : ∃ x : World, w11.alloc (.cells #[.slice A2 n c2, .int .i64 v, .int .i64 e, .slice B2 m d2] 24) = x := ⟨_, rfl⟩
      have hbl : Below w11.heap.size w11 w12 := by rw [← hwx]; exact nextA (Mem.start w11) _
      have HVu := Lib.hid (show Blk w12 w11.heap.size 24 #[.slice A2 n c2, .int .i64 v, .int .i64 e, .slice B2 m d2] from by rw [← hwx]; exact Blk.new w11 _ _)
      have H12 := Lib.hid (And.intro (H11.out.1.keep hbl) (And.intro (H11.out.2.1.keep hbl) (And.intro (H11.out.2.2.1.keep hbl) (H11.out.2.2.2.keep hbl))))
      have HWX := Lib.hid hwx
      obtain ⟨x0, x1, x2, x3⟩ := cells4 H12.out.1.box
      obtain ⟨u0, u1, u2, u3⟩ := cells4 HVu.out
      rw [← hwx] at x0 x1 x2 x3 u0 u1 u2 u3
      clear hbl hwx
      go_wp2_with fail
      rw [HWX.out]
      have HLU := Lib.hid (show Ltr w12 s A2 n v e B2 m from ⟨H0.out.ltr.n, H0.out.ltr.m, H0.out.ltr.v, H0.out.ltr.e, H12.out.2.2.1.bytes, H12.out.2.2.2.bytes⟩)
      refine (sameC HLU.out H12.out.1.ltr (by have := HFF.out; omega) (by have := HFF.out; omega) c2 d2 c d true (same_self s)).mono ?_
      rintro z w13 ⟨rfl, hbl⟩
      have H13 := Lib.hid (And.intro (H12.out.1.keep hbl) (H12.out.2.1.keep hbl))
      clear hbl x0 x1 x2 x3 u0 u1 u2 u3 HVu HWX HLU H12 H11
      go_wp2_with fail
      obtain ⟨km, hkm, hpk⟩ := pick_any w13 cut pl (by have := HPL.out; omega) (by have := HPL.out; omega)
      have HKM := Lib.hid hkm
      refine hpk.mono ?_
      rintro z w' ⟨rfl, rfl⟩
      have k1 : (0 : Int) ≤ (km : Int) := by omega
      have k2 : (km : Int) ≤ (c1 : Int) := by have := HPL.out; omega
      clear hpk hkm
      go_wp2_with fail
      refine (get_any w13 _ (p.take km) km c1 (by rw [List.length_take]; have := HPL.out; have := HKM.out; omega) (by have := HPL.out; have := HKM.out; omega) (by have := HPL.out; have := HKM.out; omega) (H13.out.2.bytes.take km)).mono ?_
      rintro z w14 hp
      obtain ⟨A3, c3, B3, d3, rfl, _, _, hbl⟩ := getS_at (.inr ⟨rfl, rfl, fun t => cut_none HS.out (by rw [HPL.out.1]; exact HKM.out) t⟩) hp
      have H14 := Lib.hid (And.intro (H13.out.1.keep hbl) (H13.out.2.keep hbl))
      clear hp hbl k1 k2
      obtain ⟨w15, hwx⟩ : ∃ x : World, w14.alloc (.cells #[.slice A3 0 c3, .int .i64 0, .int .i64 0, .slice B3 0 d3] 24) = x := ⟨_, rfl⟩
      have hbl : Below w14.heap.size w14 w15 := by rw [← hwx]; exact nextA (Mem.start w14) _
      have HVc := Lib.hid (show Blk w15 w14.heap.size 24 #[.slice A3 0 c3, .int .i64 0, .int .i64 0, .slice B3 0 d3] from by rw [← hwx]; exact Blk.new w14 _ _)
      have H15 := Lib.hid (And.intro (H14.out.1.keep hbl) (H14.out.2.keep hbl))
      have HWX := Lib.hid hwx
      have hk5 := convB H15.out.2.bytes pl c1 HPL.out.1.symm
      rw [← hwx] at hk5
      have HS15 := Lib.hid (show w15.heap.size = w14.heap.size + 1 from by rw [← hwx, World.size_alloc])
      clear hbl hwx HVc H13 H14
      obtain ⟨i0, hi0, hz0, hz1, hz2⟩ := info_parts u8inf2
      go_wp2_with first
        | ((with_reducible show wpList _ _ _ ((⟨some 93, _, _, _, _, _⟩ : Oper) :: _) _ _); refine wpList_bytesOfB _ (by rfl) 9 22 _ rfl 5 Try.underlying9 Try.underlying22 Try.underlying5 p (by have := HPL.out; unfold maxLen; omega) rfl ?_; intro ck w16 hck hr hbl hs; rw [HWX.out] at hr hbl hs; rw [HS15.out] at hr hs; rw [HPL.out.1]; (have HS16 := Lib.hid hs); clear hs hk5)
        | ((with_reducible show wpList _ _ _ ((⟨some 96, _, _, _, _, _⟩ : Oper) :: _) _ _); refine wpList_app1 _ rfl _ _ 22 5 rfl i0 _ 1 Try.underlying22 hi0 hz0 hz1 hz2 rfl _ pl ck (p.map u8v) rfl (by rw [List.length_map]; exact HPL.out.1) (hr.keep (nextA (Mem.start w16) _)) _ 1 (.int .u8 (y.toNat : Int)) rfl (by simp) rfl (by have := HPL.out; unfold maxLen; omega) (by have := HPL.out; omega) ?_; intro A4 c4 w17 hc4 hcc4 hb17)
      refine (get_any w17 A4 (p ++ [y]) (pl + 1) c4 (by rw [List.length_append, HPL.out.1]; rfl) (by have := HPL.out; omega) hcc4 (show Bytes w17 w17.heap.size A4 (p ++ [y]) from by have := hc4; unfold Bytes; rwa [List.map_append])).mono ?_
      rintro z w18 hp
      obtain ⟨A5, c5, B5, d5, rfl, _, _, hb18⟩ := getS_at (.inr ⟨rfl, rfl, fun t => more_none HS.out y t⟩) hp
      have hbb : Below w15.heap.size w15 w18 := (hbl.trans ((nextA (Mem.start w16) (.cells #[.int .u8 (y.toNat : Int)] 5)).mono hbl.size)).trans (((by rw [HS15.out]; exact hb17 : Below w15.heap.size _ _)).trans (hb18.mono (by have h1 := hb17.size; have h2 := HS16.out; have h3 := HS15.out; rw [World.size_alloc] at h1; omega)))
      have H18 := Lib.hid (And.intro (H15.out.1.keep hbb) (H15.out.2.keep hbb))
      clear hp hc4 hcc4 hb17 hb18 hbb hbl hr hck HS16 HS15 HWX H15
      obtain ⟨w19, hwx⟩ : ∃ x : World, w18.alloc (.cells #[.slice A5 0 c5, .int .i64 0, .int .i64 0, .slice B5 0 d5] 24) = x := ⟨_, rfl⟩
      have hbl : Below w18.heap.size w18 w19 := by rw [← hwx]; exact nextA (Mem.start w18) _
      have HVm := Lib.hid (show Blk w19 w18.heap.size 24 #[.slice A5 0 c5, .int .i64 0, .int .i64 0, .slice B5 0 d5] from by rw [← hwx]; exact Blk.new w18 _ _)
      have H19 := Lib.hid (And.intro (H18.out.1.keep hbl) (H18.out.2.keep hbl))
      have HWX := Lib.hid hwx
      obtain ⟨ka, hka, hpk⟩ := pick_any w19 at_ pl (by have := HPL.out; omega) (by have := HPL.out; omega)
      obtain ⟨q2, e2, _, _, hcd, hzz, hset⟩ := H19.out.2.at_ (k := ka) (by rw [List.length_map]; have := HPL.out; omega)
      injection e2 with e2; injection e2 with e2 _; subst e2
      have hkp : ka < p.length := by have := HPL.out; omega
      obtain ⟨xa, hxa⟩ : ∃ x, p[ka] = x := ⟨_, rfl⟩
      have hcc : w19.cell? ⟨q, ka, none⟩ = some (.int .u8 (xa.toNat : Int)) := by rw [hcd, List.getElem_map, hxa]; rfl
      have hxor := xor_u8 xa y
      have hset2 := hset (.int .u8 ((xa ^^^ y).toNat : Int))
      have HSET := Lib.hid (show Mem.Own (w19.setCell ⟨q, ka, none⟩ (.int .u8 ((xa ^^^ y).toNat : Int))) w5.heap.size 5 (some ⟨q, 0, none⟩) c1 ((p.set ka (xa ^^^ y)).map u8v) from by rw [List.map_set]; exact hset2)
      have HOTH := Lib.hid (show y ≠ 0 → ∀ t, ¬ isShare (p.set ka (xa ^^^ y)) t from fun hy t => by rw [← hxa]; exact other_none HS.out hkp hy t)
      have HSAM := Lib.hid (show y = 0 → p.set ka (xa ^^^ y) = p from fun hy => by rw [hy, ← hxa]; exact set_zero hkp)
      obtain ⟨xy, hxy⟩ : ∃ x, xa ^^^ y = x := ⟨_, rfl⟩
      rw [hxy] at hxor HSET HOTH HSAM
      clear hset2 hxy
      have hki : (ka : Int) < (pl : Int) := by omega
      have hk0 : (0 : Int) ≤ (ka : Int) := by omega
      clear hbl hwx hset hcd hka hkp hxa HVm H18
      go_wp2_with fail
      rw [HWX.out]
      refine hpk.mono ?_
      rintro z w' ⟨rfl, rfl⟩
      clear hpk
      go_wp2_with fail
      obtain ⟨w20, hw20⟩ : ∃ x : World, w19.setCell ⟨q, ka, none⟩ (.int .u8 (xy.toNat : Int)) = x := ⟨_, rfl⟩
      rw [hw20] at HSET ⊢
      have H20 := Lib.hid (show Below w.heap.size w w20 from by rw [← hw20]; exact H19.out.1.below.setCell (p := ⟨q, ka, none⟩) (Nat.le_trans H0.out.below.size HPL.out.2.2.2.2) _)
      clear hcc hzz hxor hki hk0 hw20 HWX H19
      obtain ⟨p2, hp2⟩ : ∃ x, p.set ka xy = x := ⟨_, rfl⟩
      have hp2l : p2.length = pl := by rw [← hp2, List.length_set]; exact HPL.out.1
      rw [hp2] at HSET HOTH HSAM
      clear hp2
      refine (get_any w20 _ p2 pl c1 hp2l (by have := HPL.out; omega) HPL.out.2.2.2.1 HSET.out.bytes).mono ?_
      rintro z w21 hp
      clear hp2l
      by_cases hy : y = 0
      · have hps := HSAM.out hy
        subst hy
        rw [hps] at hp
        obtain ⟨A6, c6, B6, d6, rfl, _, _, hbl⟩ := getS_at (.inl ⟨rfl, HS.out⟩) hp
        have H21 := Lib.hid (next H20.out hbl)
        clear hp hbl HSAM HOTH
        go_wp2_with fail
        refine (works_any _).mono ?_
        rintro z w22 ⟨rfl, hbl⟩
        have H22 := Lib.hid (next (next H21.out (nextA (Mem.start w21) _)) hbl)
        clear hbl
        go_wp2_with fail
        go_ret
        exact ⟨rfl, H22.out⟩
      · have hoth := HOTH.out hy
        have hy1 : ((y.toNat : Int) == 0) = false := by simp; intro e; exact hy (UInt8.toNat_inj.1 (by rw [e]; rfl))
        have hy2 : ((y.toNat : Int) != 0) = true := by simp; intro e; exact hy (UInt8.toNat_inj.1 (by rw [e]; rfl))
        obtain ⟨A6, c6, B6, d6, rfl, _, _, hbl⟩ := getS_at (.inr ⟨rfl, rfl, hoth⟩) hp
        have H21 := Lib.hid (next H20.out hbl)
        clear hp hbl HSAM HOTH
        go_wp2_with fail
        refine (works_any _).mono ?_
        rintro z w22 ⟨rfl, hbl⟩
        have H22 := Lib.hid (next (next H21.out (nextA (Mem.start w21) _)) hbl)
        clear hbl
        go_wp2_with fail
        go_ret
        exact ⟨rfl, H22.out⟩
    · obtain rfl := h2 (by simpa using hmay)
      clear h1 h2 hbl hmay
      go_wp2_with fail
      refine (works_any _).mono ?_
      rintro z w99 ⟨rfl, hbl⟩
      have H99 := Lib.hid (next H10.out.below hbl)
      clear hbl
      go_wp2_with fail
      go_ret
      exact ⟨rfl, H99.out⟩
  · have H0 := Lib.hid H4.out.1
    clear H4 HVt
    obtain ⟨x0, x1, x2, x3⟩ := cells4 H0.out.box
    rw [← HWT.out] at x0 x1 x2 x3
    have hp := putC H0.out.ltr HVV.out c d
    go_wp2_with fail
    rw [HWT.out]
    refine hp.mono ?_
    clear hp x0 x1 x2 x3
    rintro z w10 ⟨h1, h2, hbl⟩
    have H10 := Lib.hid (H0.out.keep hbl)
    by_cases hmay : s.may = true
    · obtain ⟨A1, c1, rfl, ho⟩ := h1 hmay
      have HS := Lib.hid (share_put hmay (by rw [H0.out.ltr.v]; exact HVV.out))
      have hps : s.put.length ≤ 600 := by have := put_len s; have h1 := H0.out.ltr.n; have h2 := H0.out.ltr.m; have h3 := HFF.out; omega
      have hpg : 18 ≤ s.put.length := by have := put_len s; omega
      obtain ⟨p, hpp⟩ : ∃ p, s.put = p := ⟨_, rfl⟩
      rw [hpp] at hps hpg ho HS ⊢
      obtain ⟨pl, hpl⟩ : ∃ x, p.length = x := ⟨_, rfl⟩
      rw [hpl] at hps hpg ⊢
      obtain ⟨q, hq, hqb⟩ := own_block ho (by rw [List.length_map, hpl]; omega)
      subst hq
      have hoc : pl ≤ c1 := by have := ho.le; rw [List.length_map, hpl] at this; exact this
      have HO := Lib.hid ho
      have HPL := Lib.hid (And.intro hpl (And.intro hps (And.intro hpg (And.intro hoc hqb))))
      have i0 : (0 : Int) < (pl : Int) := by omega
      clear h1 h2 hbl hmay ho hpp hpl hps hpg hqb hoc
      go_wp2_with fail
      refine (get_any w10 _ p pl c1 HPL.out.1 (by have := HPL.out; omega) HPL.out.2.2.2.1 HO.out.bytes).mono ?_
      rintro z w11 hp
      obtain ⟨A2, c2, B2, d2, rfl, hk1, hk2, hbl⟩ := getS_at (.inl ⟨rfl, HS.out⟩) hp
      rw [H0.out.ltr.n, H0.out.ltr.m, H0.out.ltr.v, H0.out.ltr.e]
      have H11 := Lib.hid (And.intro (H10.out.keep hbl) (And.intro (HO.out.keep hbl) (And.intro hk1 hk2)))
      clear hp hbl hk1 hk2
      obtain ⟨w12, hwx⟩ : ∃ x : World, w11.alloc (.cells #[.slice A2 n c2, .int .i64 v, .int .i64 e, .slice B2 m d2] 24) = x := ⟨_, rfl⟩
      have hbl : Below w11.heap.size w11 w12 := by rw [← hwx]; exact nextA (Mem.start w11) _
      have HVu := Lib.hid (show Blk w12 w11.heap.size 24 #[.slice A2 n c2, .int .i64 v, .int .i64 e, .slice B2 m d2] from by rw [← hwx]; exact Blk.new w11 _ _)
      have H12 := Lib.hid (And.intro (H11.out.1.keep hbl) (And.intro (H11.out.2.1.keep hbl) (And.intro (H11.out.2.2.1.keep hbl) (H11.out.2.2.2.keep hbl))))
      have HWX := Lib.hid hwx
      obtain ⟨x0, x1, x2, x3⟩ := cells4 H12.out.1.box
      obtain ⟨u0, u1, u2, u3⟩ := cells4 HVu.out
      rw [← hwx] at x0 x1 x2 x3 u0 u1 u2 u3
      clear hbl hwx
      go_wp2_with fail
      rw [HWX.out]
      have HLU := Lib.hid (show Ltr w12 s A2 n v e B2 m from ⟨H0.out.ltr.n, H0.out.ltr.m, H0.out.ltr.v, H0.out.ltr.e, H12.out.2.2.1.bytes, H12.out.2.2.2.bytes⟩)
      refine (sameC HLU.out H12.out.1.ltr (by have := HFF.out; omega) (by have := HFF.out; omega) c2 d2 c d true (same_self s)).mono ?_
      rintro z w13 ⟨rfl, hbl⟩
      have H13 := Lib.hid (And.intro (H12.out.1.keep hbl) (H12.out.2.1.keep hbl))
      clear hbl x0 x1 x2 x3 u0 u1 u2 u3 HVu HWX HLU H12 H11
      go_wp2_with fail
      obtain ⟨km, hkm, hpk⟩ := pick_any w13 cut pl (by have := HPL.out; omega) (by have := HPL.out; omega)
      have HKM := Lib.hid hkm
      refine hpk.mono ?_
      rintro z w' ⟨rfl, rfl⟩
      have k1 : (0 : Int) ≤ (km : Int) := by omega
      have k2 : (km : Int) ≤ (c1 : Int) := by have := HPL.out; omega
      clear hpk hkm
      go_wp2_with fail
      refine (get_any w13 _ (p.take km) km c1 (by rw [List.length_take]; have := HPL.out; have := HKM.out; omega) (by have := HPL.out; have := HKM.out; omega) (by have := HPL.out; have := HKM.out; omega) (H13.out.2.bytes.take km)).mono ?_
      rintro z w14 hp
      obtain ⟨A3, c3, B3, d3, rfl, _, _, hbl⟩ := getS_at (.inr ⟨rfl, rfl, fun t => cut_none HS.out (by rw [HPL.out.1]; exact HKM.out) t⟩) hp
      have H14 := Lib.hid (And.intro (H13.out.1.keep hbl) (H13.out.2.keep hbl))
      clear hp hbl k1 k2
      obtain ⟨w15, hwx⟩ : ∃ x : World, w14.alloc (.cells #[.slice A3 0 c3, .int .i64 0, .int .i64 0, .slice B3 0 d3] 24) = x := ⟨_, rfl⟩
      have hbl : Below w14.heap.size w14 w15 := by rw [← hwx]; exact nextA (Mem.start w14) _
      have HVc := Lib.hid (show Blk w15 w14.heap.size 24 #[.slice A3 0 c3, .int .i64 0, .int .i64 0, .slice B3 0 d3] from by rw [← hwx]; exact Blk.new w14 _ _)
      have H15 := Lib.hid (And.intro (H14.out.1.keep hbl) (H14.out.2.keep hbl))
      have HWX := Lib.hid hwx
      have hk5 := convB H15.out.2.bytes pl c1 HPL.out.1.symm
      rw [← hwx] at hk5
      have HS15 := Lib.hid (show w15.heap.size = w14.heap.size + 1 from by rw [← hwx, World.size_alloc])
      clear hbl hwx HVc H13 H14
      obtain ⟨i0, hi0, hz0, hz1, hz2⟩ := info_parts u8inf2
      go_wp2_with first
        | ((with_reducible show wpList _ _ _ ((⟨some 93, _, _, _, _, _⟩ : Oper) :: _) _ _); refine wpList_bytesOfB _ (by rfl) 9 22 _ rfl 5 Try.underlying9 Try.underlying22 Try.underlying5 p (by have := HPL.out; unfold maxLen; omega) rfl ?_; intro ck w16 hck hr hbl hs; rw [HWX.out] at hr hbl hs; rw [HS15.out] at hr hs; rw [HPL.out.1]; (have HS16 := Lib.hid hs); clear hs hk5)
        | ((with_reducible show wpList _ _ _ ((⟨some 96, _, _, _, _, _⟩ : Oper) :: _) _ _); refine wpList_app1 _ rfl _ _ 22 5 rfl i0 _ 1 Try.underlying22 hi0 hz0 hz1 hz2 rfl _ pl ck (p.map u8v) rfl (by rw [List.length_map]; exact HPL.out.1) (hr.keep (nextA (Mem.start w16) _)) _ 1 (.int .u8 (y.toNat : Int)) rfl (by simp) rfl (by have := HPL.out; unfold maxLen; omega) (by have := HPL.out; omega) ?_; intro A4 c4 w17 hc4 hcc4 hb17)
      refine (get_any w17 A4 (p ++ [y]) (pl + 1) c4 (by rw [List.length_append, HPL.out.1]; rfl) (by have := HPL.out; omega) hcc4 (show Bytes w17 w17.heap.size A4 (p ++ [y]) from by have := hc4; unfold Bytes; rwa [List.map_append])).mono ?_
      rintro z w18 hp
      obtain ⟨A5, c5, B5, d5, rfl, _, _, hb18⟩ := getS_at (.inr ⟨rfl, rfl, fun t => more_none HS.out y t⟩) hp
      have hbb : Below w15.heap.size w15 w18 := (hbl.trans ((nextA (Mem.start w16) (.cells #[.int .u8 (y.toNat : Int)] 5)).mono hbl.size)).trans (((by rw [HS15.out]; exact hb17 : Below w15.heap.size _ _)).trans (hb18.mono (by have h1 := hb17.size; have h2 := HS16.out; have h3 := HS15.out; rw [World.size_alloc] at h1; omega)))
      have H18 := Lib.hid (And.intro (H15.out.1.keep hbb) (H15.out.2.keep hbb))
      clear hp hc4 hcc4 hb17 hb18 hbb hbl hr hck HS16 HS15 HWX H15
      obtain ⟨w19, hwx⟩ : ∃ x : World, w18.alloc (.cells #[.slice A5 0 c5, .int .i64 0, .int .i64 0, .slice B5 0 d5] 24) = x := ⟨_, rfl⟩
      have hbl : Below w18.heap.size w18 w19 := by rw [← hwx]; exact nextA (Mem.start w18) _
      have HVm := Lib.hid (show Blk w19 w18.heap.size 24 #[.slice A5 0 c5, .int .i64 0, .int .i64 0, .slice B5 0 d5] from by rw [← hwx]; exact Blk.new w18 _ _)
      have H19 := Lib.hid (And.intro (H18.out.1.keep hbl) (H18.out.2.keep hbl))
      have HWX := Lib.hid hwx
      obtain ⟨ka, hka, hpk⟩ := pick_any w19 at_ pl (by have := HPL.out; omega) (by have := HPL.out; omega)
      obtain ⟨q2, e2, _, _, hcd, hzz, hset⟩ := H19.out.2.at_ (k := ka) (by rw [List.length_map]; have := HPL.out; omega)
      injection e2 with e2; injection e2 with e2 _; subst e2
      have hkp : ka < p.length := by have := HPL.out; omega
      obtain ⟨xa, hxa⟩ : ∃ x, p[ka] = x := ⟨_, rfl⟩
      have hcc : w19.cell? ⟨q, ka, none⟩ = some (.int .u8 (xa.toNat : Int)) := by rw [hcd, List.getElem_map, hxa]; rfl
      have hxor := xor_u8 xa y
      have hset2 := hset (.int .u8 ((xa ^^^ y).toNat : Int))
      have HSET := Lib.hid (show Mem.Own (w19.setCell ⟨q, ka, none⟩ (.int .u8 ((xa ^^^ y).toNat : Int))) w4.heap.size 5 (some ⟨q, 0, none⟩) c1 ((p.set ka (xa ^^^ y)).map u8v) from by rw [List.map_set]; exact hset2)
      have HOTH := Lib.hid (show y ≠ 0 → ∀ t, ¬ isShare (p.set ka (xa ^^^ y)) t from fun hy t => by rw [← hxa]; exact other_none HS.out hkp hy t)
      have HSAM := Lib.hid (show y = 0 → p.set ka (xa ^^^ y) = p from fun hy => by rw [hy, ← hxa]; exact set_zero hkp)
      obtain ⟨xy, hxy⟩ : ∃ x, xa ^^^ y = x := ⟨_, rfl⟩
      rw [hxy] at hxor HSET HOTH HSAM
      clear hset2 hxy
      have hki : (ka : Int) < (pl : Int) := by omega
      have hk0 : (0 : Int) ≤ (ka : Int) := by omega
      clear hbl hwx hset hcd hka hkp hxa HVm H18
      go_wp2_with fail
      rw [HWX.out]
      refine hpk.mono ?_
      rintro z w' ⟨rfl, rfl⟩
      clear hpk
      go_wp2_with fail
      obtain ⟨w20, hw20⟩ : ∃ x : World, w19.setCell ⟨q, ka, none⟩ (.int .u8 (xy.toNat : Int)) = x := ⟨_, rfl⟩
      rw [hw20] at HSET ⊢
      have H20 := Lib.hid (show Below w.heap.size w w20 from by rw [← hw20]; exact H19.out.1.below.setCell (p := ⟨q, ka, none⟩) (Nat.le_trans H0.out.below.size HPL.out.2.2.2.2) _)
      clear hcc hzz hxor hki hk0 hw20 HWX H19
      obtain ⟨p2, hp2⟩ : ∃ x, p.set ka xy = x := ⟨_, rfl⟩
      have hp2l : p2.length = pl := by rw [← hp2, List.length_set]; exact HPL.out.1
      rw [hp2] at HSET HOTH HSAM
      clear hp2
      refine (get_any w20 _ p2 pl c1 hp2l (by have := HPL.out; omega) HPL.out.2.2.2.1 HSET.out.bytes).mono ?_
      rintro z w21 hp
      clear hp2l
      by_cases hy : y = 0
      · have hps := HSAM.out hy
        subst hy
        rw [hps] at hp
        obtain ⟨A6, c6, B6, d6, rfl, _, _, hbl⟩ := getS_at (.inl ⟨rfl, HS.out⟩) hp
        have H21 := Lib.hid (next H20.out hbl)
        clear hp hbl HSAM HOTH
        go_wp2_with fail
        refine (works_any _).mono ?_
        rintro z w22 ⟨rfl, hbl⟩
        have H22 := Lib.hid (next (next H21.out (nextA (Mem.start w21) _)) hbl)
        clear hbl
        go_wp2_with fail
        go_ret
        exact ⟨rfl, H22.out⟩
      · have hoth := HOTH.out hy
        have hy1 : ((y.toNat : Int) == 0) = false := by simp; intro e; exact hy (UInt8.toNat_inj.1 (by rw [e]; rfl))
        have hy2 : ((y.toNat : Int) != 0) = true := by simp; intro e; exact hy (UInt8.toNat_inj.1 (by rw [e]; rfl))
        obtain ⟨A6, c6, B6, d6, rfl, _, _, hbl⟩ := getS_at (.inr ⟨rfl, rfl, hoth⟩) hp
        have H21 := Lib.hid (next H20.out hbl)
        clear hp hbl HSAM HOTH
        go_wp2_with fail
        refine (works_any _).mono ?_
        rintro z w22 ⟨rfl, hbl⟩
        have H22 := Lib.hid (next (next H21.out (nextA (Mem.start w21) _)) hbl)
        clear hbl
        go_wp2_with fail
        go_ret
        exact ⟨rfl, H22.out⟩
    · obtain rfl := h2 (by simpa using hmay)
      clear h1 h2 hbl hmay
      go_wp2_with fail
      refine (works_any _).mono ?_
      rintro z w99 ⟨rfl, hbl⟩
      have H99 := Lib.hid (next H10.out.below hbl)
      clear hbl
      go_wp2_with fail
      go_ret
      exact ⟨rfl, H99.out⟩
theorem backLaw_any (w : World) (x : Sm) (hx : x.good w) (at_ : Int) (_ : -9223372036854775808 ≤ at_ ∧ at_ ≤ 9223372036854775807) (y : UInt8) (cut : Int) (_ : -9223372036854775808 ≤ cut ∧ cut ≤ 9223372036854775807) (D : Option Addr) (b : List UInt8) (db : Nat) (hdb : b.length ≤ db) (_ : db ≤ maxLen) (hb : Bytes w w.heap.size D b) :
    Calls Try.prog 6 #[.agg x.cells, .int .i64 at_, .int .u8 (y.toNat : Int), .int .i64 cut, .slice D b.length db] w fun z w' => z = .returned (.bool true) ∧ Below w.heap.size w w' := by
  obtain ⟨A, B, n, c, m, d, v, e, hcs, hl⟩ := Sm.ltr hx
  rw [hcs]
  have hv : v ≤ 9223372036854775807 := by rw [← hl.v]; exact hx.ver.2
  cases hf : fewN n m
  · exact back_no w x.s A n c v e B m d hl hv at_ cut y D b _ db rfl hdb hb hf
  · by_cases h6 : b.length ≤ 600
    · exact back_yes w x.s A n c v e B m d hl hv at_ cut y D b _ db rfl hdb hb hf h6
    · exact back_big w x.s A n c v e B m d hl hv at_ cut y D b _ db rfl hdb hb hf (by omega)
end Go.Proofs.Ytlmcmcafbepjmaa.ShW
