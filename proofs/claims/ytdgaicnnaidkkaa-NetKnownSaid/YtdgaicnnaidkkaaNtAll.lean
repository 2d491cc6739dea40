/- net.All: its iterator; the copies of all messages. -/
import Derived.Test.YtdgaicnnaidkkaaNtMore
import Derived.Test.YtdgaicnnaidkkaaRngL
import Derived.Shelf.RegionOpen
import Derived.OwnWalkIn
import Derived.TacticsInMore
import Derived.LoopNIn
import Derived.LoopIn
namespace Go.Proofs.Ytdgaicnnaidkkaa.NtW
open Go.RowKit Go.Shelf Mem Rng
set_option linter.unusedVariables false
attribute [local go_sem] Oper.semAt_some wide_fn

set_option maxHeartbeats 1000000 in
theorem iter_any (w : World) (p : Nat) :
    Calls Try.prog 22 #[.pointer (some ⟨p, 0, none⟩)] w fun e w' => e = .returned (.func (.func 29) #[] #[.pointer (some ⟨w.heap.size, 0, none⟩)]) ∧
      w' = w.alloc (.cells #[.pointer (some ⟨p, 0, none⟩)] 62) := by
  have hmf : ∀ (fn : Fn) (first cap : Array Value) (w : World), (Instr.makeFunc fn first cap).run Try.prog w = .ok (.func fn first cap) w := fun _ _ _ _ => rfl
  go_enter Try.func22, Try.ntmps22
  go_wp2_with fail
  go_ret
  exact ⟨rfl, rfl⟩
/-- What the rounds keep for the iterator: the row. -/
def RowX (p : Nat) (A : Option Addr) (c : Nat) (ms : List Ms) (W : World) : Prop := W.cell? ⟨p, 0, none⟩ = some (.slice A ms.length c) ∧ ∀ j m, ms[j]? = some m → ∃ g, A = some ⟨g, 0, none⟩ ∧ W.cell? ⟨g, j, none⟩ = some m.v
set_option maxRecDepth 100000 in
set_option maxHeartbeats 2000000 in
theorem iter_seq (w : World) (B0 p c N1 : Nat) (A : Option Addr) (ms : List Ms) (T : Nat → Prop) (hm : (ms.length : Int) ≤ 1000000)
    (h0 : w.cell? ⟨B0, 0, none⟩ = some (.pointer (some ⟨p, 0, none⟩))) :
    SeqL Try.prog 29 #[.pointer (some ⟨B0, 0, none⟩)] (fun m : Ms => #[m.v]) (RowX p A c ms) (fun pre m _ => ms[pre.length]? = some m) T N1 (fun ys => ys = ms) (fun _ => True) w := by
  intro lp J Jx W hW hJR hY hJ0
  have c0 := (hW.cell (p := ⟨B0, 0, none⟩) (World.block_lt_of_cell? _ _ h0)).trans h0
  have c1 := (hJR _ _ hJ0).1
  obtain ⟨n, hn⟩ : ∃ n, ms.length = n := ⟨_, rfl⟩
  rw [hn] at c1 hm
  have HN := Lib.hid hn
  clear h0 hW hn
  refine callsIn_of_wp Try.func29 rfl trivial ?_ rfl
  simp only [Try.ntmps29, List.size_toArray, List.length_cons, List.length_nil, Nat.reduceAdd, Nat.reduceSub, Array.replicate_succ, Array.replicate_zero, List.push_toArray, List.append_toArray, List.nil_append, List.cons_append]
  gi_wp2
  gi_loopw [10] (fun i wr => ∃ k : Nat, k ≤ n ∧ i = .int .i64 (k : Int) ∧ J (ms.take k) wr)
    (fun i _ => n - (intOf i).toNat)
  case atStart => exact ⟨0, Nat.zero_le _, rfl, hJ0⟩
  case round =>
    obtain ⟨k, hk, rfl, hJs⟩ := hrel
    by_cases hlt : k < n
    · obtain ⟨m, hmk⟩ : ∃ m, ms[k]? = some m := ⟨ms[k]'(by have := HN.out; omega), List.getElem?_eq_getElem _⟩
      obtain ⟨g, rfl, hx⟩ := (hJR _ _ hJs).2 k m hmk
      obtain ⟨fn, tmps, assign, body, hy, hR⟩ := hY _ m wr hJs (by rw [List.length_take, Nat.min_eq_left (by have := HN.out; omega)]; exact hmk)
      have hki : (k : Int) < (n : Int) := by omega
      have hk0 : (0 : Int) ≤ (k : Int) := by omega
      have HT := Lib.hid (show ms.take (k + 1) = ms.take k ++ [m] from by rw [List.take_succ_eq_append_getElem (List.getElem?_eq_some_iff.1 hmk).1, (List.getElem?_eq_some_iff.1 hmk).2])
      clear hmk c0 c1 hJ0
      gi_wp2
      refine hR.mono ?_
      rintro e W3 (⟨rfl, hJ3, hk3⟩ | ⟨rfl, hJx3⟩)
      · have H3 := Lib.hid hJ3
        clear hJ3 hk3
        gi_wp2
        go_roundw
        case rel => exact ⟨k + 1, by omega, by simp, by rw [HT.out]; exact H3.out⟩
        case measure => simp [intOf]; omega
      · gi_wp2
        refine bodyPost_ret (results_none rfl _ _ _) rfl ?_
        exact ⟨⟨_, rfl⟩, .inr ⟨_, trivial, hJx3⟩⟩
    · obtain rfl : k = n := by omega
      have HK := Lib.hid (show J ms wr from by rw [← HN.out, List.take_length] at hJs; exact hJs)
      clear hJs
      gi_wp2
      go_end0
      exact ⟨⟨_, rfl⟩, .inl ⟨ms, rfl, HK.out⟩⟩
/-- Rows of bytes, and the row that holds them, all new: each in a block of its own. -/
structure RowsN (base : Nat) (A : Option Addr) (c : Nat) (ns : List Ms) (W : World) : Prop where
  own : Mem.Own W base 22 A c (ns.map Ms.v)
  rows : ∀ n ∈ ns, Mem.Own W base 5 n.A n.c (n.l.map u8v)
  apart : ns.Pairwise fun a b => ∀ g, a.A = some ⟨g, 0, none⟩ → b.A ≠ some ⟨g, 0, none⟩
theorem own_apart {w : World} {T T' : TypeId} {b b' : Nat} {A A' : Option Addr} {c c' : Nat} {xs ys : List Value} (h : Mem.Own w b T A c xs) (h' : Mem.Own w b' T' A' c' ys) (hT : T ≠ T') : ∀ g, A = some ⟨g, 0, none⟩ → A' ≠ some ⟨g, 0, none⟩ := fun g e e' => by
  rcases h.2 with ⟨hv, _⟩ | ⟨g1, _, cs, hv, _, hh, _⟩
  · injection hv with hv; rw [e] at hv; cases hv
  · rcases h'.2 with ⟨hv', _⟩ | ⟨g2, _, cs', hv', _, hh', _⟩
    · injection hv' with hv'; rw [e'] at hv'; cases hv'
    · injection hv with hv; injection hv' with hv'
      rw [e] at hv; rw [e'] at hv'
      injection hv with hv; injection hv with hv; injection hv' with hv'; injection hv' with hv'
      subst hv; subst hv'
      rw [hh] at hh'; injection hh' with hh'; injection hh' with _ hh'
      exact hT hh'
theorem RowsN.fr {S : Nat → Prop} {base : Nat} {A : Option Addr} {c : Nat} {ns : List Ms} {W W' : World} (h : RowsN base A c ns W) (hf : Fr S W W') (hS : ∀ k, base ≤ k → ¬ S k) : RowsN base A c ns W' :=
  ⟨h.own.fr hf (fun g hg => by
    rcases h.own.form with ⟨e, _⟩ | ⟨g2, e, h2, _⟩
    · rw [e] at hg; cases hg
    · rw [e] at hg; injection hg with hg; injection hg with hg; subst hg; exact hS _ h2), fun n hn => (h.rows n hn).fr hf (fun g hg => by
    rcases (h.rows n hn).form with ⟨e, _⟩ | ⟨g2, e, h2, _⟩
    · rw [e] at hg; cases hg
    · rw [e] at hg; injection hg with hg; injection hg with hg; subst hg; exact hS _ h2), h.apart⟩
theorem RowsN.keep {base : Nat} {A : Option Addr} {c : Nat} {ns : List Ms} {W W' : World} (h : RowsN base A c ns W) (hb : Below W.heap.size W W') : RowsN base A c ns W' :=
  ⟨h.own.keep hb, fun n hn => (h.rows n hn).keep hb, h.apart⟩
theorem RowsN.still {B base : Nat} {A : Option Addr} {c : Nat} {ns : List Ms} {W W' : World} (h : RowsN base A c ns W) (hs : Still B W W') : RowsN base A c ns W' :=
  ⟨hs.own h.own, fun n hn => hs.own (h.rows n hn), h.apart⟩
theorem RowsN.down {b base : Nat} {A : Option Addr} {c : Nat} {ns : List Ms} {W : World} (h : RowsN base A c ns W) (hb : b ≤ base) : RowsN b A c ns W :=
  ⟨h.own.down hb, fun n hn => (h.rows n hn).down hb, h.apart⟩
theorem Net.still {F : Nat → Prop} {p c most B : Nat} {A : Option Addr} {ms : List Ms} {W W' : World} (h : Net F p A c most ms W) (hs : Still B W W') : Net F p A c most ms W' :=
  ⟨hs.blk h.blk, hs.own h.own, fun m hm => ⟨Cells.up (hs.cells (h.msg m hm).1) hs.size, (h.msg m hm).2⟩, h.foot, fun k hk => Nat.lt_of_lt_of_le (h.lt k hk) hs.size, h.bound⟩
theorem rowK {w : World} {b : Nat} {T : TypeId} {A : Option Addr} {c k : Nat} {xs : List Value} (h : Mem.Own w b T A c xs) (hk : A.map (·.block) = some k) : A = some ⟨k, 0, none⟩ := by
  rcases h.form with ⟨e, _⟩ | ⟨g, e, _⟩
  · rw [e] at hk; cases hk
  · rw [e] at hk; injection hk with hk; dsimp only at hk; rw [e, hk]
theorem RowsN.push {base : Nat} {A A1 A2 : Option Addr} {c c1 c2 : Nat} {ns : List Ms} {l : List UInt8} {W w1 w2 : World} (h : RowsN base A c ns W) (hB : base ≤ W.heap.size) (ho : Mem.Own w1 W.heap.size 5 A1 c1 (l.map u8v)) (hb : Below W.heap.size W w1) {o : Obj}
    (ho2 : Mem.Own w2 base 22 A2 c2 (ns.map Ms.v ++ [Ms.v ⟨A1, l, c1⟩])) (hg : (w1.alloc o).grownBy w2 (A.map (·.block))) : RowsN base A2 c2 (ns ++ [⟨A1, l, c1⟩]) w2 := by
  have f1 : Fr (fun k => A = some ⟨k, 0, none⟩) w1 w2 := (Fr.quiet (S := fun k => A = some ⟨k, 0, none⟩) (nextA (Mem.start w1) o)).trans (Fr.grown (S := fun k => A = some ⟨k, 0, none⟩) hg (fun k hk => rowK h.own hk)) fun _ _ h => h
  have hA1 : ∀ g, A1 = some ⟨g, 0, none⟩ → W.heap.size ≤ g := fun g hg' => by
    rcases ho.form with ⟨e, _⟩ | ⟨g2, e, h1, _⟩
    · rw [e] at hg'; cases hg'
    · rw [e] at hg'; injection hg' with hg'; injection hg' with hg'; omega
  have hlt : ∀ {T : TypeId} {B : Option Addr} {d : Nat} {xs : List Value}, Mem.Own W base T B d xs → ∀ g, B = some ⟨g, 0, none⟩ → g < W.heap.size := fun {T B d xs} hx g hg' => by
    rcases hx.form with ⟨e, _⟩ | ⟨g2, e, _, h1, _⟩
    · rw [e] at hg'; cases hg'
    · rw [e] at hg'; injection hg' with hg'; injection hg' with hg'; omega
  refine ⟨by rw [List.map_append]; exact ho2, fun n hn => ?_, ?_⟩
  · rcases List.mem_append.1 hn with hn | hn
    · exact ((h.rows n hn).keep hb).fr f1 (fun g hg' e => own_apart (h.rows n hn) h.own (by decide) g hg' e)
    · obtain rfl := List.mem_singleton.1 hn
      exact (ho.down hB).fr f1 (fun g (hg' : A1 = some ⟨g, 0, none⟩) e => by have := hA1 g hg'; have := hlt h.own g e; omega)
  · refine List.pairwise_append.2 ⟨h.apart, List.pairwise_singleton _ _, fun a ha b hb' g hg' e => ?_⟩
    obtain rfl := List.mem_singleton.1 hb'
    have := hA1 g e
    have := hlt (h.rows a ha) g hg'
    omega
/-- What holds while the copies are gathered. -/
def AllI (F : Nat → Prop) (p : Nat) (A : Option Addr) (c most : Nat) (ms : List Ms) (w : World) (pre : List Ms) (W : World) : Prop :=
  (Net F p A c most ms W ∧ Below w.heap.size w W ∧ w.heap.size + 2 ≤ W.heap.size) ∧ ∃ A' c' ns, Blk W w.heap.size 30 #[.slice A' pre.length c'] ∧ RowsN (w.heap.size + 2) A' c' ns W ∧ ns.map Ms.l = pre.map Ms.l
/-- What All leaves. -/
def AllOk (w : World) (L : List (List UInt8)) (e : Ending) (w' : World) : Prop := ∃ A c ns, e = .returned (.slice A L.length c) ∧ RowsN w.heap.size A c ns w' ∧ ns.map Ms.l = L ∧ Below w.heap.size w w'
set_option maxRecDepth 100000 in
set_option maxHeartbeats 8000000 in
theorem all_ok (F : Nat → Prop) (p : Nat) (A : Option Addr) (c most : Nat) (ms : List Ms) (w : World) (h : Net F p A c most ms w) :
    Calls Try.prog 9 #[.pointer (some ⟨p, 0, none⟩)] w (AllOk w (ms.map Ms.l)) := by
  obtain ⟨i0, hi0, hz0, hz1, hz2⟩ := info_parts msinfo
  have HZ := Lib.hid (And.intro hi0 (And.intro hz0 (And.intro hz1 hz2)))
  have HN := Lib.hid h
  have hb1 := nextA (Mem.start w) (.cells #[.slice none 0 0] 30)
  have hb2 := nextA hb1 (.cells #[.pointer (some ⟨p, 0, none⟩)] 62)
  have HB := Lib.hid hb2
  have hbl := (Blk.new w 30 #[.slice none 0 0]).alloc (.cells #[.pointer (some ⟨p, 0, none⟩)] 62)
  have hbx := Blk.new (w.alloc (.cells #[.slice none 0 0] 30)) 62 #[.pointer (some ⟨p, 0, none⟩)]
  rw [World.size_alloc] at hbx
  have HI := Lib.hid (show AllI F p A c most ms w [] ((w.alloc (.cells #[.slice none 0 0] 30)).alloc (.cells #[.pointer (some ⟨p, 0, none⟩)] 62)) from
    ⟨⟨h.keep hb2, hb2, by simp⟩, none, 0, [], hbl, ⟨Mem.Own.nil, (fun n hn => by cases hn), List.Pairwise.nil⟩, rfl⟩)
  have HBX := Lib.hid hbx
  have HLM := Lib.hid (show (ms.length : Int) ≤ 1000000 from by have := h.bound; omega)
  clear h hb1 hb2 hbl hbx hi0 hz0 hz1 hz2
  refine of_wide ?_
  refine callsIn_of_wp_marks Try.func9 rfl trivial ?_ rfl
  refine wpIn_wide.2 ?_
  simp only [Try.ntmps9, List.size_toArray, List.length_cons, List.length_nil, Nat.reduceAdd, Nat.reduceSub, Array.replicate_succ, Array.replicate_zero, List.push_toArray, List.append_toArray, List.nil_append, List.cons_append]
  go_wp2_with fail
  refine (iter_any _ p).mono ?_
  rintro e w3 ⟨rfl, rfl⟩
  go_wp2_with fail
  generalize hw3 : (w.alloc (.cells #[.slice none 0 0] 30)).alloc (.cells #[.pointer (some ⟨p, 0, none⟩)] 62) = w3 at *
  have HS3 := Lib.hid (show w3.heap.size = w.heap.size + 2 from by rw [← hw3]; simp)
  clear hw3
  refine (wpIn_wide (n := 5)).1 ?_
  refine wpIn_rangeL (gf := 29) (lb := #[.pointer (some ⟨w.heap.size + 1, 0, none⟩)]) rfl (enters_of Try.func29 (by kernel_rfl) rfl)
    (iter_seq w3 (w.heap.size + 1) p c (w.heap.size + 2) A ms (fun k => k = w.heap.size) HLM.out (by rw [HBX.out.cell]; rfl))
    (by rw [HS3.out]; exact Nat.le_refl _) (Below.refl _ _) (fun _ => rfl)
    (AllI F p A c most ms w) (fun c pre W => False)
    (fun pre W hI => ⟨hI.1.1.cell0, fun j m hm => by obtain ⟨g, hA, hc, _⟩ := hI.1.1.row_at hm; exact ⟨g, hA, hc⟩⟩)
    (fun s W W' hs ⟨⟨h1, h2, h3⟩, A', c', ns, h4, h5, h6⟩ => ⟨⟨h1.still hs, (Fr.below (S := fun k => w.heap.size ≤ k) (hs.fr ((Fr.of_below h2).mono fun k _ h => h) (by rw [HS3.out]; omega)) (Nat.le_refl _) fun _ h => h), Nat.le_trans h3 hs.size⟩, A', c', ns, hs.blk h4, h5.still hs, h6⟩)
    (fun c => abd_false) (fun pre x W W' _ h => h) HI.out ?round ?done ?stop
  case round =>
    rintro lp pre m W hI hX
    gi_wp2
    clear hI hX
    refine ⟨trivial, ?_⟩
    rintro W ⟨⟨hN, hB, hsz⟩, A', c', ns, hbl, hrows, hmap⟩ hm
    obtain ⟨k, hk⟩ : ∃ k, pre.length = k := ⟨_, rfl⟩
    rw [hk] at hbl hm
    have hkm : k < ms.length := (List.getElem?_eq_some_iff.1 hm).1
    have hmsg := hN.msg m (List.mem_of_getElem? hm)
    have hnk : ns.length = k := by have := congrArg List.length hmap; rwa [List.length_map, List.length_map, hk] at this
    have hbo := hN.bound
    have HKM := Lib.hid (show k < 100000 from by omega)
    have HSK := Lib.hid (show k = (ns.map Ms.v).length from by rw [List.length_map]; exact hnk.symm)
    have HD := Lib.hid (And.intro (hN.keep (nextN (Mem.start W) 1)) (And.intro (next hB (nextN (Mem.start W) 1)) (And.intro hsz (And.intro (hrows.keep (nextN (Mem.start W) 1)) (hbl.keep (nextN (Mem.start W) 1))))))
    have HCL := Lib.hid (PlW.clone_any W.drew m.A m.l m.l.length m.c rfl (Nat.le_trans hmsg.2.2.1 (by decide)) (hmsg.1.below (nextN (Mem.start W) 1)))
    have HX := Lib.hid (And.intro hmap (And.intro hk hnk))
    obtain ⟨hi0, hz0, hz1, hz2⟩ := HZ.out
    have hAl : ∀ g, A' = some ⟨g, 0, none⟩ → w.heap.size ≠ g := fun g hg e => by
      rcases hrows.own.form with ⟨e2, _⟩ | ⟨g2, e2, h2, _⟩
      · rw [e2] at hg; cases hg
      · rw [e2] at hg; injection hg with hg; injection hg with hg; omega
    have HAL := Lib.hid hAl
    have HW0 := Lib.hid hbl
    clear hN hB hsz hbl hrows hmap hm hkm hmsg hnk hbo hk hAl
    unfold Ms.v
    gi_wp2
    --HELD all6
    refine wpIn_heldG (fun w' => w'.cell? ⟨w.heap.size, 0, none⟩ = some (.slice A' k c') ∧ Blk w' w.heap.size 30 #[.slice A' k c']) [5] (by kernel_rfl) (by kernel_rfl) (by first | exact lets_ownPostG | exact lets_then lets_ownPostG | exact lets_inBlock lets_ownPostG | exact lets_then (lets_inBlock lets_ownPostG)) ?hs0 ?rg0
    case hs0 =>
      exact ⟨one HD.out.2.2.2.2, HD.out.2.2.2.2⟩
    case rg0 =>
    intro hHeld
    refine wpAnyG_take (i := 0) (oi := { dst := some 12, op := Op.load 30 (Operand.tmp 3), type := 30, pos := _, after := #[], guard := none }) (v := ?_) rfl (by kernel_rfl) (by kernel_rfl) (by kernel_rfl) (by kernel_rfl) (fun _ _ _ h => h) (Or.inl ⟨by rfl, ?_⟩) (by assumption) ?_
    rotate_left
    · intro w hSw
      try dsimp only at hSw
      go_simp
      try with_reducible rfl
    try simp only [Act.put, List.setIfInBounds_toArray, List.set_cons_zero, List.set_cons_succ]
    refine wpAnyG_pure (i := 1) (oi := { dst := some 13, op := Op.move (Operand.tmp 4), type := 22, pos := _, after := #[], guard := none }) (v := ?_) rfl (by kernel_rfl) (by kernel_rfl) (by kernel_rfl) (by kernel_rfl) (fun _ _ _ h => h) (Or.inl ⟨by rfl, ?_⟩) (fun _ => by assumption) ?_
    rotate_left
    · intro w hSw
      try dsimp only at hSw
      go_simp
      try with_reducible rfl
    try simp only [Act.put, List.setIfInBounds_toArray, List.set_cons_zero, List.set_cons_succ]
    refine wpAnyG_one (i := 2) (o := { dst := some 14, op := Op.call { callee := Callee.value (Operand.func 20), args := #[Operand.tmp 13], argTypes := #[22] }, type := 22, pos := _, after := #[{ on := 1, ground := Ground.data }], guard := none }) (by kernel_rfl) rfl (fun K hK => ?_)
    go_simp
    refine HCL.out.mono ?_
    rintro e w1 ⟨A1, c1, rfl, ho1, hb1⟩
    have HO1 := Lib.hid (And.intro ho1 hb1)
    clear ho1 hb1
    try dsimp only
    refine hK.out _ _ ?_ (fun hHeld => ?_)
    · intro _
      try dsimp only
      exact ⟨cellB HO1.out.2 hHeld.1, hHeld.2.keep HO1.out.2⟩
    clear hK K
    try simp only [Act.put, List.setIfInBounds_toArray, List.set_cons_zero, List.set_cons_succ]
    have hHeld := hHeld (by kernel_rfl)
    refine wpAnyG_one (i := 3) (o := { dst := some 15, op := Op.buildSlice 30 1 #[(0, Operand.tmp 14)], type := 30, pos := _, after := #[{ on := 2, ground := Ground.data }], guard := none }) (by kernel_rfl) rfl (fun K hK => ?_)
    have hbd := build1 w1 A1 m.l.length c1
    go_simp
    clear hbd
    try dsimp only
    refine hK.out _ _ ?_ (fun hHeld => ?_)
    · intro _
      try dsimp only
      exact ⟨cellA hHeld.1 _, hHeld.2.alloc _⟩
    clear hK K
    try simp only [Act.put, List.setIfInBounds_toArray, List.set_cons_zero, List.set_cons_succ]
    have hHeld := hHeld (by kernel_rfl)
    refine wpAnyG_one (i := 4) (o := { dst := some 16, op := Op.call { callee := Callee.builtin Builtin.append, args := #[Operand.tmp 12, Operand.tmp 15], argTypes := #[30, 30] }, type := 30, pos := _, after := #[{ on := 0, ground := Ground.data }, { on := 3, ground := Ground.data }, { on := 2, ground := Ground.chain }], guard := none }) (by kernel_rfl) rfl (fun K hK => ?_)
    refine step_app (w1.alloc (.cells #[Value.slice A1 m.l.length c1] 22)) rfl (.tmp 12) (.tmp 15) 30 (by rfl) (w.heap.size + 2) 22 i0 _ 24 Try.underlying30 hi0 hz0 hz1 hz2 rfl A' c' k (ns.map Ms.v) (by rfl) HSK.out ((HD.out.2.2.2.1.own.keep HO1.out.2).alloc _) (w1.heap.size + 1) (some ⟨w1.heap.size, 0, none⟩) 1 1 [Ms.v ⟨A1, m.l, c1⟩] (by rfl) rfl (cells_one w1 _ _ _ (by omega)) (by simp [Value.oneCell', Ms.v]) (by have := HSK.out; have := HKM.out; rw [← HSK.out]; simp [maxLen]; omega) (by have := HKM.out; rw [← HSK.out]; simp; omega) (by have := HD.out.2.2.1; have := HO1.out.2.size; simp at this ⊢; omega) (k + 1) rfl ?_
    intro A2 c2 w2 ho2 hbb2 hg2 hA2
    rw [World.size_alloc] at hA2
    have HO2 := Lib.hid (And.intro ho2 (And.intro hg2 (And.intro hA2 hbb2)))
    clear ho2 hg2 hA2 hbb2
    try dsimp only
    refine hK.out _ _ ?_ (fun hHeld => ?_)
    · intro _
      try dsimp only
      have hf : Fr (fun k => A' = some ⟨k, 0, none⟩) (w1.alloc (.cells #[Value.slice A1 m.l.length c1] 22)) w2 := Fr.grown (S := fun k => A' = some ⟨k, 0, none⟩) HO2.out.2.1 (fun k hk => rowK HD.out.2.2.2.1.own hk)
      exact ⟨cellFr hf hHeld.1 (fun e => HAL.out _ e rfl), hHeld.2.fr hf (fun e => HAL.out _ e rfl)⟩
    clear hK K
    try simp only [Act.put, List.setIfInBounds_toArray, List.set_cons_zero, List.set_cons_succ]
    have hHeld := hHeld (by kernel_rfl)
    refine wpAnyG_one (i := 5) (o := { dst := none, op := Op.store 30 (Operand.tmp 3) (Operand.tmp 16), type := 0, pos := _, after := #[{ on := 4, ground := Ground.data }, { on := 4, ground := Ground.chain }, { on := 0, ground := Ground.phase }, { on := 1, ground := Ground.phase }, { on := 2, ground := Ground.phase }, { on := 3, ground := Ground.phase }, { on := 4, ground := Ground.phase }], guard := none }) (by kernel_rfl) rfl (fun K hK => ?_)
    have HBK := Lib.hid hHeld.2
    have z0 := HBK.out.frozen 0
    have cc0 := hHeld.1
    go_simp
    clear z0 cc0
    try dsimp only
    refine hK.out _ _ ?_ (fun hHeld => ?_)
    · exact fun h => (st_no (by kernel_rfl) h).elim
    clear hK K
    try simp only [Act.put, List.setIfInBounds_toArray, List.set_cons_zero, List.set_cons_succ]
    clear hHeld
    refine wpAnyG_done (by kernel_rfl) ?_ _
    --END all6
    gi_wp2
    obtain ⟨hdn, hdb, hds, hdr, hdl⟩ := HD.out
    have hAb : ∀ g, A' = some ⟨g, 0, none⟩ → w.heap.size + 2 ≤ g := fun g hg => by
      rcases hdr.own.form with ⟨e2, _⟩ | ⟨g2, e2, h2, _⟩
      · rw [e2] at hg; cases hg
      · rw [e2] at hg; injection hg with hg; injection hg with hg; omega
    have f2 : Fr (fun k => A' = some ⟨k, 0, none⟩) W w2 := ((Fr.quiet (S := fun k => A' = some ⟨k, 0, none⟩) (next (nextN (Mem.start W) 1) HO1.out.2)).alloc (.cells #[Value.slice A1 m.l.length c1] 22)).trans (Fr.grown (S := fun k => A' = some ⟨k, 0, none⟩) HO2.out.2.1 (fun k hk => rowK hdr.own hk)) fun _ _ h => h
    have fW : Fr (fun k => k = w.heap.size ∨ A' = some ⟨k, 0, none⟩) W (w2.setCell ⟨w.heap.size, 0, none⟩ (.slice A2 (k + 1) c2)) := (f2.mono fun k _ h => .inr h).setCell (p := ⟨w.heap.size, 0, none⟩) (fun _ => .inl rfl) _
    have fW' : Fr (fun k => k = w.heap.size ∨ A' = some ⟨k, 0, none⟩) (W.drewN 1) (w2.setCell ⟨w.heap.size, 0, none⟩ (.slice A2 (k + 1) c2)) := ⟨fW.os, fW.tape, fW.output, fW.size, fW.block⟩
    have hrow := (hdr.push hds HO1.out.1 HO1.out.2 HO2.out.1 HO2.out.2.1).fr (Fr.setCell (S := fun k => k = w.heap.size) (Fr.refl _ w2) (p := ⟨w.heap.size, 0, none⟩) (fun _ => rfl) (.slice A2 (k + 1) c2)) (fun k hk e => by omega)
    refine ⟨⟨fW.size, fun j o hB hj ho => (fW.block j (Array.getElem?_eq_some_iff.1 hj).1 (fun e => ?_)).trans hj⟩, fW.mono fun j _ e => e.imp id (hAb j), ⟨hdn.fr fW' (fun j hj e => ?_), ?_, ?_⟩, A2, c2, ns ++ [⟨A1, m.l, c1⟩], ?_, hrow, ?_⟩
    · have := HS3.out
      rcases e with e | e
      · omega
      · rcases hdr.own.2 with ⟨hv, _⟩ | ⟨g1, _, cs, hv, _, hh, _⟩
        · injection hv with hv; rw [e] at hv; cases hv
        · injection hv with hv
          rw [e] at hv; injection hv with hv; injection hv with hv
          subst hv
          have hh' : W.heap[j]? = some (.cells cs 22 (0, 0)) := hh
          rw [hh'] at hj; injection hj with hj; subst hj; simp [Obj.isCells] at ho
    · have := HN.out.lt j hj
      rcases e with e | e
      · omega
      · have := hAb j e; omega
    · exact hdb.trans (fW'.below hdb.size fun j e => e.elim (fun e => by omega) (fun e => by have := hAb j e; omega))
    · have := fW.size
      have h1 : w.heap.size + 2 ≤ W.heap.size := hds
      omega
    · have e1 : (pre ++ [m]).length = k + 1 := by rw [List.length_append, List.length_singleton, HX.out.2.1]
      rw [e1]; exact HBK.out.set_ 0 _
    · rw [List.map_append, List.map_append, HX.out.1]; rfl
  case done =>
    rintro D xs W hD rfl ⟨⟨hN, hB, hsz⟩, A', c', ns, hbl, hrows, hmap⟩ hK
    have hc := one hbl
    have H5 := Lib.hid (And.intro hB (And.intro hrows (And.intro hmap (And.intro hD hK))))
    have hlen : xs.length = (xs.map Ms.l).length := by rw [List.length_map]
    rw [hlen] at hc
    clear hN hB hsz hbl hrows hmap hD hK hlen
    go_wp2_with fail
    have hKD := H5.out.2.2.2.2
    refine ⟨by simp, .inl ⟨_, _, rfl, run_takeDeferred hKD, ?_⟩⟩
    have hSt := shut_still (B := 0) (.deferred none) hKD rfl (Nat.zero_le _)
    have hD2 : w.heap.size + 2 ≤ D := by have := H5.out.2.2.2.1; rw [HS3.out] at this; exact this
    refine ⟨.slice A' (xs.map Ms.l).length c', ?_, A', c', ns, rfl, (H5.out.2.1.still hSt).down (by omega), H5.out.2.2.1, ?_⟩
    · simp [results, Try.results9, go_sem]
    · exact Fr.below (S := fun k => w.heap.size ≤ k) (shut_fr (Fr.of_below H5.out.1) (by omega) _) (Nat.le_refl _) fun _ h => h
  case stop => exact fun _ _ _ _ _ _ h => h.elim
theorem all_any (F : Nat → Prop) (p most : Nat) (L : List (List UInt8)) (w : World) (h : NetA F p most L w) : Calls Try.prog 9 #[.pointer (some ⟨p, 0, none⟩)] w (AllOk w L) := by
  obtain ⟨A, c, ms, rfl, hn⟩ := h
  exact all_ok F p A c most ms w hn
end Go.Proofs.Ytdgaicnnaidkkaa.NtW
