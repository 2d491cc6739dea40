/- The law PolyKnown: its walk. -/
import Derived.Test.YtciilojlfaihjaaPlLawValues
import Derived.Test.YtciilojlfaihjaaPlLawDivides
import Derived.Test.YtciilojlfaihjaaPlLawTwo
import Derived.Test.YtciilojlfaihjaaPlLawThrough
import Derived.Test.YtciilojlfaihjaaPlLawOnly
import Derived.Test.YtciilojlfaihjaaPlLawRoots
namespace Go.Proofs.Ytciilojlfaihjaa.PlW
open Go.RowKit Mem Gf FdW Pl Rng
set_option linter.unusedVariables false

def rowV (b : Nat) : Value := .slice (some ⟨b, 0, none⟩) 3 3
/-- The rows are the call's own, each of three bytes. -/
def Lst (base : Nat) (w : World) (A : Option Addr) (c : Nat) (bs : List Nat) : Prop :=
  Mem.Own w base 22 A c (bs.map rowV) ∧ ∀ b ∈ bs, b < w.heap.size ∧ A ≠ some ⟨b, 0, none⟩ ∧ ∃ r : List UInt8, r.length = 3 ∧ Bytes w w.heap.size (some ⟨b, 0, none⟩) r
theorem rowKeep {w w' : World} {B B' b : Nat} {r : List UInt8} (h : Bytes w B (some ⟨b, 0, none⟩) r) (hk : w'.heap[b]? = w.heap[b]?) (hB : b < B') : Bytes w' B' (some ⟨b, 0, none⟩) r := fun hl => by
  obtain ⟨b', o', hq, _, hc⟩ := h hl
  injection hq with hq; injection hq with h1 h2 h3; subst h1; subst h2
  exact ⟨b, 0, rfl, hB, fun j v hv => (World.cell?_of_block hk).trans (hc j v hv)⟩
theorem Lst.step {base : Nat} {wr w3 : World} {A A' : Option Addr} {c c' : Nat} {bs : List Nat} (h : Lst base wr A c bs) (cs : Array Value) (r : List UInt8) (hr : r.length = 3) (hcs : cs.toList = r.map u8v) (o : Obj)
    (ho : Mem.Own w3 base 22 A' c' (bs.map rowV ++ [rowV wr.heap.size])) (hg : ((wr.alloc (.cells cs 5)).alloc o).grownBy w3 (A.map (·.block))) (hA : A' = A ∨ A' = some ⟨wr.heap.size + 1 + 1, 0, none⟩) : Lst base w3 A' c' (bs ++ [wr.heap.size]) := by
  have hs : ((wr.alloc (.cells cs 5)).alloc o).heap.size = wr.heap.size + 1 + 1 := by simp
  have hAlt : ∀ g, A = some ⟨g, 0, none⟩ → g < wr.heap.size := fun g hg' => by
    rcases h.1.form with ⟨rfl, _⟩ | ⟨g', hq, _, h2, _⟩
    · cases hg'
    · rw [hq] at hg'; injection hg' with hg'; injection hg' with hg'; omega
  have hz : ((wr.alloc (.cells cs 5)).alloc o).heap.size ≤ w3.heap.size := hg.size
  refine ⟨by rw [List.map_append]; exact ho, fun b hb => ?_⟩
  rcases List.mem_append.1 hb with hb | hb
  · obtain ⟨h1, h2, r', h3, h4⟩ := h.2 b hb
    refine ⟨by omega, ?_, r', h3, rowKeep h4 ?_ (by omega)⟩
    · rcases hA with rfl | rfl
      · exact h2
      · intro hq; injection hq with hq; injection hq with hq; omega
    · exact (hg.block b (by omega) (fun e => by
        cases A with
        | none => cases e
        | some q =>
          rcases h.1.form with ⟨hq, _⟩ | ⟨g', hq, _⟩
          · cases hq
          · injection hq with hq; subst hq; injection e with e; exact h2 (by rw [e]))).trans ((nextA (nextA (Mem.start wr) (.cells cs 5)) o).block b h1)
  · obtain rfl := List.mem_singleton.1 hb
    refine ⟨by omega, ?_, r, hr, ?_⟩
    · rcases hA with rfl | rfl
      · intro hq; have := hAlt _ hq; omega
      · intro hq; injection hq with hq; injection hq with hq; omega
    · refine rowKeep (Bytes.new wr r 5 (0, 0) cs hcs (wr.heap.size + 1) (by omega)) ?_ (by omega)
      refine (hg.block wr.heap.size (by omega) (fun e => ?_)).trans ((nextA (Mem.start (wr.alloc (.cells cs 5))) o).block wr.heap.size (by simp))
      cases A with
      | none => cases e
      | some q =>
        rcases h.1.form with ⟨hq, _⟩ | ⟨g', hq, _⟩
        · cases hq
        · injection hq with hq; subst hq; injection e with e
          have := hAlt g' rfl; dsimp only at e; omega
theorem u8_ofk (x : Int) (h : 0 ≤ x ∧ x ≤ 255) : ∃ a : UInt8, x = (a.toNat : Int) := ⟨UInt8.ofNat x.toNat, by rw [← ofNat_toNat (by omega)]; omega⟩
section
variable (w : World) (A : Option Addr) (a : List UInt8) (n ca : Nat) (hn : a.length = n) (hca : n ≤ ca) (hA : Bytes w w.heap.size A a) (B : Option Addr) (b : List UInt8) (m cb : Nat) (hm : b.length = m) (hcb : m ≤ cb) (hB : Bytes w w.heap.size B b)
include hn hca hA hm hcb hB
theorem two_n : Calls Try.prog 3 #[.slice A n ca, .slice B m cb] w fun e w' => e = .returned (.bool true) ∧ Below w.heap.size w w' := by
  subst hn; subst hm; exact two_any w A a ca hca hA B b cb hcb hB
theorem roots_n : Calls Try.prog 8 #[.slice A n ca, .slice B m cb] w fun e w' => e = .returned (.bool true) ∧ Below w.heap.size w w' := by
  subst hn; subst hm; exact lroots_any w A a ca hca hA B b cb hcb hB
theorem divides_n (x : Int) (hx : 0 ≤ x ∧ x ≤ 255) : Calls Try.prog 6 #[.slice A n ca, .slice B m cb, .int .u8 x] w fun e w' => e = .returned (.bool true) ∧ Below w.heap.size w w' := by
  subst hn; subst hm; obtain ⟨x, rfl⟩ := u8_ofk x hx; exact divides_any w A a ca hca hA B b cb hcb hB x
theorem values_n (x : Int) (hx : 0 ≤ x ∧ x ≤ 255) : Calls Try.prog 5 #[.slice A n ca, .slice B m cb, .int .u8 x] w fun e w' => e = .returned (.bool true) ∧ Below w.heap.size w w' := by
  subst hn; subst hm; obtain ⟨x, rfl⟩ := u8_ofk x hx; exact values_any w A a ca hca hA B b cb hcb hB x
theorem only_n (C : Option Addr) (c : List UInt8) (l cc : Nat) (hl : c.length = l) (hcc : l ≤ cc) (hC : Bytes w w.heap.size C c) : Calls Try.prog 7 #[.slice A n ca, .slice B m cb, .slice C l cc] w fun e w' => e = .returned (.bool true) ∧ Below w.heap.size w w' := by
  subst hn; subst hm; subst hl; exact only_any w A a ca hca hA B b cb hcb hB C c cc hcc hC
theorem through_n (C : Option Addr) (c : List UInt8) (l cc : Nat) (hl : c.length = l) (hcc : l ≤ cc) (hC : Bytes w w.heap.size C c) (x : Int) (hx : 0 ≤ x ∧ x ≤ 255) : Calls Try.prog 4 #[.slice A n ca, .slice B m cb, .slice C l cc, .int .u8 x] w fun e w' => e = .returned (.bool true) ∧ Below w.heap.size w w' := by
  subst hn; subst hm; subst hl; obtain ⟨x, rfl⟩ := u8_ofk x hx; exact through_any w A a ca hca hA B b cb hcb hB C c cc hcc hC x
end
/-- The table of rows in a world. -/
def Tab (w : World) (g : Nat) : Prop := ∀ j, j < 64 → ∃ b, w.cell? ⟨g, j, none⟩ = some (.slice (some ⟨b, 0, none⟩) 3 3) ∧ b < w.heap.size ∧ ∃ r : List UInt8, r.length = 3 ∧ Bytes w w.heap.size (some ⟨b, 0, none⟩) r
theorem Tab.keep {w w' : World} {g : Nat} (h : Tab w g) (hg : g < w.heap.size) (hb : Below w.heap.size w w') : Tab w' g := fun j hj => by
  obtain ⟨b, h1, h2, r, h3, h4⟩ := h j hj
  exact ⟨b, (hb.cell (p := ⟨g, j, none⟩) hg).trans h1, Nat.lt_of_lt_of_le h2 hb.size, r, h3, (h4.below hb).up hb.size⟩
theorem Lst.tab {base : Nat} {w : World} {A : Option Addr} {c : Nat} {bs : List Nat} (h : Lst base w A c bs) (hl : bs.length = 64) : ∃ g, A = some ⟨g, 0, none⟩ ∧ g < w.heap.size ∧ Tab w g := by
  obtain ⟨g, hA, _, hg, _⟩ := h.1.at_ (k := 0) (by rw [List.length_map]; omega)
  refine ⟨g, hA, hg, fun j hj => ?_⟩
  obtain ⟨g', hA', _, _, hc, _⟩ := h.1.at_ (k := j) (by rw [List.length_map]; omega)
  rw [hA] at hA'; injection hA' with hA'; injection hA' with hA'; subst hA'
  rw [List.getElem_map] at hc
  obtain ⟨h1, _, r, h3, h4⟩ := h.2 bs[j] (List.getElem_mem _)
  exact ⟨_, hc, h1, r, h3, h4⟩
/-- What stays while the rows are asked. -/
structure Hd (w : World) (g b1 b2 : Nat) (r1 r2 : List UInt8) (w' : World) : Prop where
  below : Below w.heap.size w w'
  tab : Tab w' g
  g : g < w'.heap.size
  b1 : Bytes w' w'.heap.size (some ⟨b1, 0, none⟩) r1
  b2 : Bytes w' w'.heap.size (some ⟨b2, 0, none⟩) r2
theorem Hd.keep {w w' w2 : World} {g b1 b2 : Nat} {r1 r2 : List UInt8} (h : Hd w g b1 b2 r1 r2 w') (hb : Below w'.heap.size w' w2) : Hd w g b1 b2 r1 r2 w2 :=
  ⟨next h.below hb, h.tab.keep h.g hb, Nat.lt_of_lt_of_le h.g hb.size, (h.b1.below hb).up hb.size, (h.b2.below hb).up hb.size⟩
theorem buildR (W : World) (b : Option Addr) (n c : Nat) : (Instr.buildSlice 45 1 #[(0, .slice b n c)]).run Try.prog W = .ok (.slice (some ⟨W.heap.size, 0, none⟩) 1 1) (W.alloc (.cells #[.slice b n c] 22)) := by kernel_rfl
theorem rowinfo : (Try.prog.info? 22).map (fun i => (i.zero, i.size, i.bytes)) = some (some (Value.slice none 0 0), 1, 24) := by kernel_rfl

set_option maxRecDepth 100000 in
set_option maxHeartbeats 40000000 in
theorem known_any (w : World) : Calls Try.prog 11 #[] w fun e w' => e = .returned (.bool true) ∧ Below w.heap.size w w' := by
  go_enter Try.func11, Try.ntmps11
  go_wp2_with fail
  go_loopw [1, 2] (fun s i wr => ∃ (k : Nat) (A : Option Addr) (c : Nat) (bs : List Nat), i = .int .i64 (k : Int) ∧ s = .slice A k c ∧ bs.length = k ∧ k ≤ 64 ∧ Below w.heap.size w wr ∧ Lst w.heap.size wr A c bs) (fun _ i _ => 64 - (intOf i).toNat)
  case atStart => exact ⟨0, none, 0, [], rfl, rfl, rfl, by omega, Below.refl _ _, Mem.Own.nil, by simp⟩
  case round =>
    obtain ⟨k, A, c, bs, rfl, rfl, hbs, hk, hb, hL⟩ := hrel
    have HB := Lib.hid (And.intro hb hL)
    clear hb hL
    obtain ⟨wo, rfl⟩ : ∃ wo : World, wo = wr := ⟨_, rfl⟩
    by_cases hk8 : k < 64
    · have hk8i : (k : Int) < 64 := by omega
      have hk0i : (0 : Int) ≤ (k : Int) := by omega
      have hb3 := build3 wo
      have hbR := buildR
      obtain ⟨a0, ha0⟩ := u8_ofk ((k : Int) % 4 * 85) (by omega)
      obtain ⟨a1, ha1⟩ := u8_ofk ((k : Int) / 4 % 4) (by omega)
      obtain ⟨a2, ha2⟩ := u8_ofk ((k : Int) / 16 * 7) (by omega)
      obtain ⟨i0, hi0, hz0, hz1, hz2⟩ := info_parts rowinfo
      have hown := ((HB.out.2.1.alloc (.cells #[.int .u8 ((k : Int) % 4 * 85), .int .u8 ((k : Int) / 4 % 4), .int .u8 ((k : Int) / 16 * 7)] 5)).alloc (.cells #[.slice (some ⟨wo.heap.size, 0, none⟩) 3 3] 22))
      have hbs2 : k = (bs.map rowV).length := by rw [List.length_map]; exact hbs.symm
      have hbR' := hbR (wo.alloc (.cells #[.int .u8 ((k : Int) % 4 * 85), .int .u8 ((k : Int) / 4 % 4), .int .u8 ((k : Int) / 16 * 7)] 5)) (some ⟨wo.heap.size, 0, none⟩) 3 3
      rw [World.size_alloc] at hbR'
      have HB0 := Lib.hid HB.out.1.size
      have HE3 := Lib.hid (show (#[.int .u8 ((k : Int) % 4 * 85), .int .u8 ((k : Int) / 4 % 4), .int .u8 ((k : Int) / 16 * 7)] : Array Value).toList = [a0, a1, a2].map u8v by simp [u8v, ha0, ha1, ha2])
      have HOWN := Lib.hid hown
      have HBS2 := Lib.hid hbs2
      have HBS := Lib.hid hbs
      clear hbR ha0 ha1 ha2 hown hbs2 hbs
      go_wp2_with ((with_reducible show wpList _ _ _ ((⟨some 24, _, _, _, _, _⟩ : Oper) :: _) _ _); refine wpList_app _ rfl _ _ _ rfl w.heap.size 22 i0 _ 24 Try.underlying45 hi0 hz0 hz1 hz2 rfl A c _ (bs.map rowV) rfl HBS2.out HOWN.out (wo.heap.size + 1 + 1) _ _ 1 [rowV wo.heap.size] rfl rfl (by have := cells_one (wo.alloc (.cells #[.int .u8 ((k : Int) % 4 * 85), .int .u8 ((k : Int) / 4 % 4), .int .u8 ((k : Int) / 16 * 7)] 5)) (rowV wo.heap.size) 22 (wo.heap.size + 1 + 1) (by simp); rw [World.size_alloc] at this; exact this) (by simp [rowV, Value.oneCell']) (by have := HBS.out; simp [maxLen]; omega) (by have := HBS.out; simp; omega) (by have := HB0.out; simp; omega) (k + 1) rfl ?_; intro A2 c2 w2 ho2 hb2 hg2 hA2; have HL := Lib.hid (And.intro (Lst.step HB.out.2 _ [a0, a1, a2] rfl HE3.out _ ho2 hg2 (by simpa using hA2)) (HB.out.1.trans (Below.trans (((Below.refl _ wo).alloc HB0.out _).alloc (by have := HB0.out; simp; omega) _) hb2))); clear ho2 hb2 hg2 hA2)
      go_roundw
      case rel => exact ⟨k + 1, A2, c2, bs ++ [wo.heap.size], by simp, rfl, by rw [List.length_append, HBS.out]; rfl, by omega, HL.out.2, HL.out.1⟩
      case measure => simp [intOf]; omega
    · obtain rfl : k = 64 := by omega
      rw [show (((64 : Nat) : Nat) : Int) = 64 from rfl]
      obtain ⟨g, rfl, hg, hT⟩ := HB.out.2.tab hbs
      have HT0 := Lib.hid (And.intro hg hT)
      have HB0 := Lib.hid HB.out.1
      clear hg hT HB hbs
      go_wp2_with fail
      go_loopw [3] (fun i wr => ∃ j : Nat, i = .int .i64 (j : Int) ∧ j ≤ 64 ∧ Below w.heap.size w wr ∧ Tab wr g ∧ g < wr.heap.size) (fun i _ => 64 - (intOf i).toNat)
      case atStart => exact ⟨0, rfl, by omega, HB0.out, HT0.out.2, HT0.out.1⟩
      case round =>
        obtain ⟨j, rfl, hj, hb, hT, hg⟩ := hrel
        have HR := Lib.hid (And.intro hb (And.intro hT hg))
        clear hb hT hg
        obtain ⟨wp, rfl⟩ : ∃ wp : World, wp = wr := ⟨_, rfl⟩
        by_cases hj8 : j < 64
        · have hj8i : (j : Int) < 64 := by omega
          have hj0i : (0 : Int) ≤ (j : Int) := by omega
          go_wp2_with fail
          go_loopw [4] (fun i wr => ∃ k : Nat, i = .int .i64 (k : Int) ∧ k ≤ 66 ∧ Below w.heap.size w wr ∧ Tab wr g ∧ g < wr.heap.size) (fun i _ => 66 - (intOf i).toNat)
          case atStart => exact ⟨0, rfl, by omega, HR.out.1, HR.out.2.1, HR.out.2.2⟩
          case round =>
            obtain ⟨k, rfl, hk, hb, hT, hg⟩ := hrel
            obtain ⟨wq, rfl⟩ : ∃ wq : World, wq = wr := ⟨_, rfl⟩
            by_cases hk8 : k < 64
            · have hk8i : (k : Int) < 64 := by omega
              have hk0i : (0 : Int) ≤ (k : Int) := by omega
              obtain ⟨m, hm⟩ : ∃ m : Nat, (k : Int) % 4 = (m : Int) := ⟨k % 4, by omega⟩
              have hmt : (k : Int).tmod 4 = (m : Int) := by rw [Int.tmod_eq_emod_of_nonneg hk0i]; exact hm
              have hm3 : (m : Int) ≤ 3 := by omega
              have hm0 : (0 : Int) ≤ (m : Int) := by omega
              obtain ⟨b1, c1, l1, r1, e1, t1⟩ := hT j hj8
              obtain ⟨b2, c2, l2, r2, e2, t2⟩ := hT k hk8
              have H1 := Lib.hid (And.intro e1 e2)
              have H2 := Lib.hid (show wq.drew.cell? ⟨g, j, none⟩ = some (.slice (some ⟨b1, 0, none⟩) 3 3) ∧ wq.drew.cell? ⟨g, k, none⟩ = some (.slice (some ⟨b2, 0, none⟩) 3 3) ∧ Hd w g b1 b2 r1 r2 wq.drew from
                ⟨c1, c2, Hd.keep ⟨hb, hT, hg, t1, t2⟩ (nextN (Mem.start wq) 1)⟩)
              clear hb hT hg l1 e1 t1 l2 e2 t2 c1 c2
              have hwj : IntKind.u8.wrap (j : Int) = (j : Int) := IntWalk.u8_in _ (by omega)
              have hwk : IntKind.u8.wrap (k : Int) = (k : Int) := IntWalk.u8_in _ (by omega)
              go_wp2_with fail
              --HELD12
              refine wp_region_noPanic ?_
              refine wp_region_held_drew (S := fun w' => w'.cell? ⟨g, j, none⟩ = some (.slice (some ⟨b1, 0, none⟩) 3 3) ∧ w'.cell? ⟨g, k, none⟩ = some (.slice (some ⟨b2, 0, none⟩) 3 3) ∧ Hd w g b1 b2 r1 r2 w') (by kernel_rfl) ?hs0 ?rg0
              case hs0 =>
                exact ⟨H2.out.1, H2.out.2.1, H2.out.2.2⟩
              case rg0 =>
              intro hHeld
              refine wpAnyH_take (i := 0) (oi := { dst := some 37, op := Op.move (Operand.tmp 1), type := 45, pos := _, after := #[], guard := none }) (v := ?_) rfl (by kernel_rfl) (by kernel_rfl) (by kernel_rfl) (fun _ _ _ h => h) (Or.inl ⟨by rfl, ?_⟩) (by assumption) ?_
              rotate_left
              · intro w hSw
                try dsimp only at hSw
                go_simp
                try with_reducible rfl
              try simp only [Act.put, List.setIfInBounds_toArray, List.set_cons_zero, List.set_cons_succ]
              refine wpAnyH_take (i := 1) (oi := { dst := some 38, op := Op.move (Operand.tmp 3), type := 3, pos := _, after := #[], guard := none }) (v := ?_) rfl (by kernel_rfl) (by kernel_rfl) (by kernel_rfl) (fun _ _ _ h => h) (Or.inl ⟨by rfl, ?_⟩) (by assumption) ?_
              rotate_left
              · intro w hSw
                try dsimp only at hSw
                go_simp
                try with_reducible rfl
              try simp only [Act.put, List.setIfInBounds_toArray, List.set_cons_zero, List.set_cons_succ]
              refine wpAnyH_take (i := 2) (oi := { dst := some 39, op := Op.indexAddr 45 (Operand.tmp 37) (Operand.tmp 38), type := 0, pos := _, after := #[{ on := 0, ground := Ground.data }, { on := 1, ground := Ground.data }], guard := none }) (v := ?_) rfl (by kernel_rfl) (by kernel_rfl) (by kernel_rfl) (fun _ _ _ h => h) (Or.inl ⟨by rfl, ?_⟩) (by assumption) ?_
              rotate_left
              · intro w hSw
                try dsimp only at hSw
                go_simp
                try with_reducible rfl
              try simp only [Act.put, List.setIfInBounds_toArray, List.set_cons_zero, List.set_cons_succ]
              refine wpAnyH_take (i := 3) (oi := { dst := some 40, op := Op.load 22 (Operand.tmp 39), type := 22, pos := _, after := #[{ on := 2, ground := Ground.data }], guard := none }) (v := ?_) rfl (by kernel_rfl) (by kernel_rfl) (by kernel_rfl) (fun _ _ _ h => h) (Or.inl ⟨by rfl, ?_⟩) (by assumption) ?_
              rotate_left
              · intro w hSw
                try dsimp only at hSw
                go_simp
                try with_reducible rfl
              try simp only [Act.put, List.setIfInBounds_toArray, List.set_cons_zero, List.set_cons_succ]
              refine wpAnyH_take (i := 4) (oi := { dst := some 41, op := Op.move (Operand.tmp 1), type := 45, pos := _, after := #[], guard := none }) (v := ?_) rfl (by kernel_rfl) (by kernel_rfl) (by kernel_rfl) (fun _ _ _ h => h) (Or.inl ⟨by rfl, ?_⟩) (by assumption) ?_
              rotate_left
              · intro w hSw
                try dsimp only at hSw
                go_simp
                try with_reducible rfl
              try simp only [Act.put, List.setIfInBounds_toArray, List.set_cons_zero, List.set_cons_succ]
              refine wpAnyH_take (i := 5) (oi := { dst := some 42, op := Op.move (Operand.tmp 4), type := 3, pos := _, after := #[], guard := none }) (v := ?_) rfl (by kernel_rfl) (by kernel_rfl) (by kernel_rfl) (fun _ _ _ h => h) (Or.inl ⟨by rfl, ?_⟩) (by assumption) ?_
              rotate_left
              · intro w hSw
                try dsimp only at hSw
                go_simp
                try with_reducible rfl
              try simp only [Act.put, List.setIfInBounds_toArray, List.set_cons_zero, List.set_cons_succ]
              refine wpAnyH_take (i := 6) (oi := { dst := some 43, op := Op.indexAddr 45 (Operand.tmp 41) (Operand.tmp 42), type := 0, pos := _, after := #[{ on := 4, ground := Ground.data }, { on := 5, ground := Ground.data }], guard := none }) (v := ?_) rfl (by kernel_rfl) (by kernel_rfl) (by kernel_rfl) (fun _ _ _ h => h) (Or.inl ⟨by rfl, ?_⟩) (by assumption) ?_
              rotate_left
              · intro w hSw
                try dsimp only at hSw
                go_simp
                try with_reducible rfl
              try simp only [Act.put, List.setIfInBounds_toArray, List.set_cons_zero, List.set_cons_succ]
              refine wpAnyH_take (i := 7) (oi := { dst := some 44, op := Op.load 22 (Operand.tmp 43), type := 22, pos := _, after := #[{ on := 6, ground := Ground.data }], guard := none }) (v := ?_) rfl (by kernel_rfl) (by kernel_rfl) (by kernel_rfl) (fun _ _ _ h => h) (Or.inl ⟨by rfl, ?_⟩) (by assumption) ?_
              rotate_left
              · intro w hSw
                try dsimp only at hSw
                go_simp
                try with_reducible rfl
              try simp only [Act.put, List.setIfInBounds_toArray, List.set_cons_zero, List.set_cons_succ]
              refine wpAnyH_take (i := 8) (oi := { dst := some 45, op := Op.move (Operand.tmp 4), type := 3, pos := _, after := #[], guard := none }) (v := ?_) rfl (by kernel_rfl) (by kernel_rfl) (by kernel_rfl) (fun _ _ _ h => h) (Or.inl ⟨by rfl, ?_⟩) (by assumption) ?_
              rotate_left
              · intro w hSw
                try dsimp only at hSw
                go_simp
                try with_reducible rfl
              try simp only [Act.put, List.setIfInBounds_toArray, List.set_cons_zero, List.set_cons_succ]
              refine wpAnyH_take (i := 9) (oi := { dst := some 46, op := Op.binOp BinOp.rem 3 (Operand.tmp 45) (Operand.const (Value.int IntKind.i64 4)) 3, type := 3, pos := _, after := #[{ on := 8, ground := Ground.data }], guard := none }) (v := ?_) rfl (by kernel_rfl) (by kernel_rfl) (by kernel_rfl) (fun _ _ _ h => h) (Or.inl ⟨by rfl, ?_⟩) (by assumption) ?_
              rotate_left
              · intro w hSw
                try dsimp only at hSw
                go_simp
                try with_reducible rfl
              try simp only [Act.put, List.setIfInBounds_toArray, List.set_cons_zero, List.set_cons_succ]
              refine wpAnyH_take (i := 10) (oi := { dst := some 47, op := Op.slice 22 (Operand.tmp 44) none (some (Operand.tmp 46)) none, type := 22, pos := _, after := #[{ on := 7, ground := Ground.data }, { on := 9, ground := Ground.data }], guard := none }) (v := ?_) rfl (by kernel_rfl) (by kernel_rfl) (by kernel_rfl) (fun _ _ _ h => h) (Or.inl ⟨by rfl, ?_⟩) (by assumption) ?_
              rotate_left
              · intro w hSw
                try dsimp only at hSw
                go_simp
                try with_reducible rfl
              try simp only [Act.put, List.setIfInBounds_toArray, List.set_cons_zero, List.set_cons_succ]
              refine wpAnyH_ready (rs := [11]) (by kernel_rfl) (by simp) ?_
              refine AllReadyH.cons (o := { dst := some 48, op := Op.call { callee := Callee.value (Operand.func 3), args := #[Operand.tmp 40, Operand.tmp 47], argTypes := #[22, 22] }, type := 4, pos := _, after := #[{ on := 3, ground := Ground.data }, { on := 10, ground := Ground.data }], guard := none }) rfl (fun K hK => ?_) AllReadyH.nil
              go_simp
              obtain ⟨h1, h2, h3⟩ := hHeld
              refine (two_n _ (some ⟨b1, 0, none⟩) r1 3 3 H1.out.1 (by omega) h3.b1 (some ⟨b2, 0, none⟩) (r2.take m) m 3 (by rw [List.length_take, H1.out.2]; omega) (by omega) (h3.b2.take m)).mono ?_
              rintro e w1 ⟨rfl, hb1⟩
              try dsimp only
              refine hK.out _ _ ?_ (fun hHeld => ?_)
              · try dsimp only
                exact ⟨(hb1.cell (p := ⟨g, j, none⟩) h3.g).trans h1, (hb1.cell (p := ⟨g, k, none⟩) h3.g).trans h2, h3.keep hb1⟩
              clear hK K
              try simp only [Act.put, List.setIfInBounds_toArray, List.set_cons_zero, List.set_cons_succ]
              refine wpAnyH_take (i := 12) (oi := { dst := some 49, op := Op.unOp UnOp.not 4 (Operand.tmp 48), type := 4, pos := _, after := #[{ on := 11, ground := Ground.data }], guard := none }) (v := ?_) rfl (by kernel_rfl) (by kernel_rfl) (by kernel_rfl) (fun _ _ _ h => h) (Or.inl ⟨by rfl, ?_⟩) (by assumption) ?_
              rotate_left
              · intro w hSw
                try dsimp only at hSw
                go_simp
                try with_reducible rfl
              try simp only [Act.put, List.setIfInBounds_toArray, List.set_cons_zero, List.set_cons_succ]
              refine wpAnyH_take (i := 13) (oi := { dst := some 50, op := Op.move (Operand.tmp 49), type := 4, pos := _, after := #[{ on := 12, ground := Ground.data }, { on := 11, ground := Ground.chain }], guard := none }) (v := ?_) rfl (by kernel_rfl) (by kernel_rfl) (by kernel_rfl) (fun _ _ _ h => h) (Or.inl ⟨by rfl, ?_⟩) (by assumption) ?_
              rotate_left
              · intro w hSw
                try dsimp only at hSw
                go_simp
                try with_reducible rfl
              try simp only [Act.put, List.setIfInBounds_toArray, List.set_cons_zero, List.set_cons_succ]
              refine wpAnyH_take (i := 14) (oi := { dst := some 51, op := Op.move (Operand.tmp 1), type := 45, pos := _, after := #[{ on := 13, ground := Ground.guard }], guard := some (13, false) }) (v := ?_) rfl (by kernel_rfl) (by kernel_rfl) (by kernel_rfl) (fun _ _ _ h => h) (Or.inl ⟨by rfl, ?_⟩) (by assumption) ?_
              rotate_left
              · intro w hSw
                try dsimp only at hSw
                go_simp
                try with_reducible rfl
              try simp only [Act.put, List.setIfInBounds_toArray, List.set_cons_zero, List.set_cons_succ]
              refine wpAnyH_take (i := 15) (oi := { dst := some 52, op := Op.move (Operand.tmp 3), type := 3, pos := _, after := #[{ on := 13, ground := Ground.guard }], guard := some (13, false) }) (v := ?_) rfl (by kernel_rfl) (by kernel_rfl) (by kernel_rfl) (fun _ _ _ h => h) (Or.inl ⟨by rfl, ?_⟩) (by assumption) ?_
              rotate_left
              · intro w hSw
                try dsimp only at hSw
                go_simp
                try with_reducible rfl
              try simp only [Act.put, List.setIfInBounds_toArray, List.set_cons_zero, List.set_cons_succ]
              refine wpAnyH_take (i := 16) (oi := { dst := some 53, op := Op.indexAddr 45 (Operand.tmp 51) (Operand.tmp 52), type := 0, pos := _, after := #[{ on := 14, ground := Ground.data }, { on := 15, ground := Ground.data }, { on := 13, ground := Ground.guard }], guard := some (13, false) }) (v := ?_) rfl (by kernel_rfl) (by kernel_rfl) (by kernel_rfl) (fun _ _ _ h => h) (Or.inl ⟨by rfl, ?_⟩) (by assumption) ?_
              rotate_left
              · intro w hSw
                try dsimp only at hSw
                go_simp
                try with_reducible rfl
              try simp only [Act.put, List.setIfInBounds_toArray, List.set_cons_zero, List.set_cons_succ]
              refine wpAnyH_take (i := 17) (oi := { dst := some 54, op := Op.load 22 (Operand.tmp 53), type := 22, pos := _, after := #[{ on := 16, ground := Ground.data }, { on := 13, ground := Ground.guard }], guard := some (13, false) }) (v := ?_) rfl (by kernel_rfl) (by kernel_rfl) (by kernel_rfl) (fun _ _ _ h => h) (Or.inl ⟨by rfl, ?_⟩) (by assumption) ?_
              rotate_left
              · intro w hSw
                try dsimp only at hSw
                go_simp
                try with_reducible rfl
              try simp only [Act.put, List.setIfInBounds_toArray, List.set_cons_zero, List.set_cons_succ]
              refine wpAnyH_take (i := 18) (oi := { dst := some 55, op := Op.move (Operand.tmp 1), type := 45, pos := _, after := #[{ on := 13, ground := Ground.guard }], guard := some (13, false) }) (v := ?_) rfl (by kernel_rfl) (by kernel_rfl) (by kernel_rfl) (fun _ _ _ h => h) (Or.inl ⟨by rfl, ?_⟩) (by assumption) ?_
              rotate_left
              · intro w hSw
                try dsimp only at hSw
                go_simp
                try with_reducible rfl
              try simp only [Act.put, List.setIfInBounds_toArray, List.set_cons_zero, List.set_cons_succ]
              refine wpAnyH_take (i := 19) (oi := { dst := some 56, op := Op.move (Operand.tmp 4), type := 3, pos := _, after := #[{ on := 13, ground := Ground.guard }], guard := some (13, false) }) (v := ?_) rfl (by kernel_rfl) (by kernel_rfl) (by kernel_rfl) (fun _ _ _ h => h) (Or.inl ⟨by rfl, ?_⟩) (by assumption) ?_
              rotate_left
              · intro w hSw
                try dsimp only at hSw
                go_simp
                try with_reducible rfl
              try simp only [Act.put, List.setIfInBounds_toArray, List.set_cons_zero, List.set_cons_succ]
              refine wpAnyH_take (i := 20) (oi := { dst := some 57, op := Op.indexAddr 45 (Operand.tmp 55) (Operand.tmp 56), type := 0, pos := _, after := #[{ on := 18, ground := Ground.data }, { on := 19, ground := Ground.data }, { on := 13, ground := Ground.guard }], guard := some (13, false) }) (v := ?_) rfl (by kernel_rfl) (by kernel_rfl) (by kernel_rfl) (fun _ _ _ h => h) (Or.inl ⟨by rfl, ?_⟩) (by assumption) ?_
              rotate_left
              · intro w hSw
                try dsimp only at hSw
                go_simp
                try with_reducible rfl
              try simp only [Act.put, List.setIfInBounds_toArray, List.set_cons_zero, List.set_cons_succ]
              refine wpAnyH_take (i := 21) (oi := { dst := some 58, op := Op.load 22 (Operand.tmp 57), type := 22, pos := _, after := #[{ on := 20, ground := Ground.data }, { on := 13, ground := Ground.guard }], guard := some (13, false) }) (v := ?_) rfl (by kernel_rfl) (by kernel_rfl) (by kernel_rfl) (fun _ _ _ h => h) (Or.inl ⟨by rfl, ?_⟩) (by assumption) ?_
              rotate_left
              · intro w hSw
                try dsimp only at hSw
                go_simp
                try with_reducible rfl
              try simp only [Act.put, List.setIfInBounds_toArray, List.set_cons_zero, List.set_cons_succ]
              refine wpAnyH_take (i := 22) (oi := { dst := some 59, op := Op.move (Operand.tmp 3), type := 3, pos := _, after := #[{ on := 13, ground := Ground.guard }], guard := some (13, false) }) (v := ?_) rfl (by kernel_rfl) (by kernel_rfl) (by kernel_rfl) (fun _ _ _ h => h) (Or.inl ⟨by rfl, ?_⟩) (by assumption) ?_
              rotate_left
              · intro w hSw
                try dsimp only at hSw
                go_simp
                try with_reducible rfl
              try simp only [Act.put, List.setIfInBounds_toArray, List.set_cons_zero, List.set_cons_succ]
              refine wpAnyH_take (i := 23) (oi := { dst := some 60, op := Op.convert 3 5 (Operand.tmp 59), type := 5, pos := _, after := #[{ on := 22, ground := Ground.data }, { on := 13, ground := Ground.guard }], guard := some (13, false) }) (v := ?_) rfl (by kernel_rfl) (by kernel_rfl) (by kernel_rfl) (fun _ _ _ h => h) (Or.inl ⟨by rfl, ?_⟩) (by assumption) ?_
              rotate_left
              · intro w hSw
                try dsimp only at hSw
                go_simp
                try with_reducible rfl
              try simp only [Act.put, List.setIfInBounds_toArray, List.set_cons_zero, List.set_cons_succ]
              refine wpAnyH_ready (rs := [24]) (by kernel_rfl) (by simp) ?_
              refine AllReadyH.cons (o := { dst := some 61, op := Op.call { callee := Callee.value (Operand.func 6), args := #[Operand.tmp 54, Operand.tmp 58, Operand.tmp 60], argTypes := #[22, 22, 5] }, type := 4, pos := _, after := #[{ on := 17, ground := Ground.data }, { on := 21, ground := Ground.data }, { on := 23, ground := Ground.data }, { on := 13, ground := Ground.chain }, { on := 13, ground := Ground.guard }], guard := some (13, false) }) rfl (fun K hK => ?_) AllReadyH.nil
              go_simp
              obtain ⟨h1, h2, h3⟩ := hHeld
              refine (divides_n _ (some ⟨b1, 0, none⟩) r1 3 3 H1.out.1 (by omega) h3.b1 (some ⟨b2, 0, none⟩) r2 3 3 H1.out.2 (by omega) h3.b2 (j : Int) (by omega)).mono ?_
              rintro e w1 ⟨rfl, hb1⟩
              try dsimp only
              refine hK.out _ _ ?_ (fun hHeld => ?_)
              · try dsimp only
                exact ⟨(hb1.cell (p := ⟨g, j, none⟩) h3.g).trans h1, (hb1.cell (p := ⟨g, k, none⟩) h3.g).trans h2, h3.keep hb1⟩
              clear hK K
              try simp only [Act.put, List.setIfInBounds_toArray, List.set_cons_zero, List.set_cons_succ]
              refine wpAnyH_take (i := 25) (oi := { dst := some 62, op := Op.unOp UnOp.not 4 (Operand.tmp 61), type := 4, pos := _, after := #[{ on := 24, ground := Ground.data }, { on := 13, ground := Ground.guard }], guard := some (13, false) }) (v := ?_) rfl (by kernel_rfl) (by kernel_rfl) (by kernel_rfl) (fun _ _ _ h => h) (Or.inl ⟨by rfl, ?_⟩) (by assumption) ?_
              rotate_left
              · intro w hSw
                try dsimp only at hSw
                go_simp
                try with_reducible rfl
              try simp only [Act.put, List.setIfInBounds_toArray, List.set_cons_zero, List.set_cons_succ]
              refine wpAnyH_take (i := 26) (oi := { dst := some 63, op := Op.pick (Operand.tmp 50) (Operand.const (Value.bool true)) (Operand.tmp 62), type := 4, pos := _, after := #[{ on := 13, ground := Ground.data }, { on := 25, ground := Ground.data }], guard := none }) (v := ?_) rfl (by kernel_rfl) (by kernel_rfl) (by kernel_rfl) (fun _ _ _ h => h) (Or.inl ⟨by rfl, ?_⟩) (by assumption) ?_
              rotate_left
              · intro w hSw
                try dsimp only at hSw
                go_simp
                try with_reducible rfl
              try simp only [Act.put, List.setIfInBounds_toArray, List.set_cons_zero, List.set_cons_succ]
              refine wpAnyH_take (i := 27) (oi := { dst := some 64, op := Op.move (Operand.tmp 63), type := 4, pos := _, after := #[{ on := 26, ground := Ground.data }, { on := 24, ground := Ground.chain }], guard := none }) (v := ?_) rfl (by kernel_rfl) (by kernel_rfl) (by kernel_rfl) (fun _ _ _ h => h) (Or.inl ⟨by rfl, ?_⟩) (by assumption) ?_
              rotate_left
              · intro w hSw
                try dsimp only at hSw
                go_simp
                try with_reducible rfl
              try simp only [Act.put, List.setIfInBounds_toArray, List.set_cons_zero, List.set_cons_succ]
              refine wpAnyH_take (i := 28) (oi := { dst := some 65, op := Op.move (Operand.tmp 1), type := 45, pos := _, after := #[{ on := 27, ground := Ground.guard }], guard := some (27, false) }) (v := ?_) rfl (by kernel_rfl) (by kernel_rfl) (by kernel_rfl) (fun _ _ _ h => h) (Or.inl ⟨by rfl, ?_⟩) (by assumption) ?_
              rotate_left
              · intro w hSw
                try dsimp only at hSw
                go_simp
                try with_reducible rfl
              try simp only [Act.put, List.setIfInBounds_toArray, List.set_cons_zero, List.set_cons_succ]
              refine wpAnyH_take (i := 29) (oi := { dst := some 66, op := Op.move (Operand.tmp 3), type := 3, pos := _, after := #[{ on := 27, ground := Ground.guard }], guard := some (27, false) }) (v := ?_) rfl (by kernel_rfl) (by kernel_rfl) (by kernel_rfl) (fun _ _ _ h => h) (Or.inl ⟨by rfl, ?_⟩) (by assumption) ?_
              rotate_left
              · intro w hSw
                try dsimp only at hSw
                go_simp
                try with_reducible rfl
              try simp only [Act.put, List.setIfInBounds_toArray, List.set_cons_zero, List.set_cons_succ]
              refine wpAnyH_take (i := 30) (oi := { dst := some 67, op := Op.indexAddr 45 (Operand.tmp 65) (Operand.tmp 66), type := 0, pos := _, after := #[{ on := 28, ground := Ground.data }, { on := 29, ground := Ground.data }, { on := 27, ground := Ground.guard }], guard := some (27, false) }) (v := ?_) rfl (by kernel_rfl) (by kernel_rfl) (by kernel_rfl) (fun _ _ _ h => h) (Or.inl ⟨by rfl, ?_⟩) (by assumption) ?_
              rotate_left
              · intro w hSw
                try dsimp only at hSw
                go_simp
                try with_reducible rfl
              try simp only [Act.put, List.setIfInBounds_toArray, List.set_cons_zero, List.set_cons_succ]
              refine wpAnyH_take (i := 31) (oi := { dst := some 68, op := Op.load 22 (Operand.tmp 67), type := 22, pos := _, after := #[{ on := 30, ground := Ground.data }, { on := 27, ground := Ground.guard }], guard := some (27, false) }) (v := ?_) rfl (by kernel_rfl) (by kernel_rfl) (by kernel_rfl) (fun _ _ _ h => h) (Or.inl ⟨by rfl, ?_⟩) (by assumption) ?_
              rotate_left
              · intro w hSw
                try dsimp only at hSw
                go_simp
                try with_reducible rfl
              try simp only [Act.put, List.setIfInBounds_toArray, List.set_cons_zero, List.set_cons_succ]
              refine wpAnyH_take (i := 32) (oi := { dst := some 69, op := Op.move (Operand.tmp 1), type := 45, pos := _, after := #[{ on := 27, ground := Ground.guard }], guard := some (27, false) }) (v := ?_) rfl (by kernel_rfl) (by kernel_rfl) (by kernel_rfl) (fun _ _ _ h => h) (Or.inl ⟨by rfl, ?_⟩) (by assumption) ?_
              rotate_left
              · intro w hSw
                try dsimp only at hSw
                go_simp
                try with_reducible rfl
              try simp only [Act.put, List.setIfInBounds_toArray, List.set_cons_zero, List.set_cons_succ]
              refine wpAnyH_take (i := 33) (oi := { dst := some 70, op := Op.move (Operand.tmp 4), type := 3, pos := _, after := #[{ on := 27, ground := Ground.guard }], guard := some (27, false) }) (v := ?_) rfl (by kernel_rfl) (by kernel_rfl) (by kernel_rfl) (fun _ _ _ h => h) (Or.inl ⟨by rfl, ?_⟩) (by assumption) ?_
              rotate_left
              · intro w hSw
                try dsimp only at hSw
                go_simp
                try with_reducible rfl
              try simp only [Act.put, List.setIfInBounds_toArray, List.set_cons_zero, List.set_cons_succ]
              refine wpAnyH_take (i := 34) (oi := { dst := some 71, op := Op.indexAddr 45 (Operand.tmp 69) (Operand.tmp 70), type := 0, pos := _, after := #[{ on := 32, ground := Ground.data }, { on := 33, ground := Ground.data }, { on := 27, ground := Ground.guard }], guard := some (27, false) }) (v := ?_) rfl (by kernel_rfl) (by kernel_rfl) (by kernel_rfl) (fun _ _ _ h => h) (Or.inl ⟨by rfl, ?_⟩) (by assumption) ?_
              rotate_left
              · intro w hSw
                try dsimp only at hSw
                go_simp
                try with_reducible rfl
              try simp only [Act.put, List.setIfInBounds_toArray, List.set_cons_zero, List.set_cons_succ]
              refine wpAnyH_take (i := 35) (oi := { dst := some 72, op := Op.load 22 (Operand.tmp 71), type := 22, pos := _, after := #[{ on := 34, ground := Ground.data }, { on := 27, ground := Ground.guard }], guard := some (27, false) }) (v := ?_) rfl (by kernel_rfl) (by kernel_rfl) (by kernel_rfl) (fun _ _ _ h => h) (Or.inl ⟨by rfl, ?_⟩) (by assumption) ?_
              rotate_left
              · intro w hSw
                try dsimp only at hSw
                go_simp
                try with_reducible rfl
              try simp only [Act.put, List.setIfInBounds_toArray, List.set_cons_zero, List.set_cons_succ]
              refine wpAnyH_take (i := 36) (oi := { dst := some 73, op := Op.move (Operand.tmp 4), type := 3, pos := _, after := #[{ on := 27, ground := Ground.guard }], guard := some (27, false) }) (v := ?_) rfl (by kernel_rfl) (by kernel_rfl) (by kernel_rfl) (fun _ _ _ h => h) (Or.inl ⟨by rfl, ?_⟩) (by assumption) ?_
              rotate_left
              · intro w hSw
                try dsimp only at hSw
                go_simp
                try with_reducible rfl
              try simp only [Act.put, List.setIfInBounds_toArray, List.set_cons_zero, List.set_cons_succ]
              refine wpAnyH_take (i := 37) (oi := { dst := some 74, op := Op.convert 3 5 (Operand.tmp 73), type := 5, pos := _, after := #[{ on := 36, ground := Ground.data }, { on := 27, ground := Ground.guard }], guard := some (27, false) }) (v := ?_) rfl (by kernel_rfl) (by kernel_rfl) (by kernel_rfl) (fun _ _ _ h => h) (Or.inl ⟨by rfl, ?_⟩) (by assumption) ?_
              rotate_left
              · intro w hSw
                try dsimp only at hSw
                go_simp
                try with_reducible rfl
              try simp only [Act.put, List.setIfInBounds_toArray, List.set_cons_zero, List.set_cons_succ]
              refine wpAnyH_ready (rs := [38]) (by kernel_rfl) (by simp) ?_
              refine AllReadyH.cons (o := { dst := some 75, op := Op.call { callee := Callee.value (Operand.func 5), args := #[Operand.tmp 68, Operand.tmp 72, Operand.tmp 74], argTypes := #[22, 22, 5] }, type := 4, pos := _, after := #[{ on := 31, ground := Ground.data }, { on := 35, ground := Ground.data }, { on := 37, ground := Ground.data }, { on := 27, ground := Ground.chain }, { on := 27, ground := Ground.guard }], guard := some (27, false) }) rfl (fun K hK => ?_) AllReadyH.nil
              go_simp
              obtain ⟨h1, h2, h3⟩ := hHeld
              refine (values_n _ (some ⟨b1, 0, none⟩) r1 3 3 H1.out.1 (by omega) h3.b1 (some ⟨b2, 0, none⟩) r2 3 3 H1.out.2 (by omega) h3.b2 (k : Int) (by omega)).mono ?_
              rintro e w1 ⟨rfl, hb1⟩
              try dsimp only
              refine hK.out _ _ ?_ (fun hHeld => ?_)
              · try dsimp only
                exact ⟨(hb1.cell (p := ⟨g, j, none⟩) h3.g).trans h1, (hb1.cell (p := ⟨g, k, none⟩) h3.g).trans h2, h3.keep hb1⟩
              clear hK K
              try simp only [Act.put, List.setIfInBounds_toArray, List.set_cons_zero, List.set_cons_succ]
              refine wpAnyH_take (i := 39) (oi := { dst := some 76, op := Op.unOp UnOp.not 4 (Operand.tmp 75), type := 4, pos := _, after := #[{ on := 38, ground := Ground.data }, { on := 27, ground := Ground.guard }], guard := some (27, false) }) (v := ?_) rfl (by kernel_rfl) (by kernel_rfl) (by kernel_rfl) (fun _ _ _ h => h) (Or.inl ⟨by rfl, ?_⟩) (by assumption) ?_
              rotate_left
              · intro w hSw
                try dsimp only at hSw
                go_simp
                try with_reducible rfl
              try simp only [Act.put, List.setIfInBounds_toArray, List.set_cons_zero, List.set_cons_succ]
              refine wpAnyH_take (i := 40) (oi := { dst := some 77, op := Op.pick (Operand.tmp 64) (Operand.const (Value.bool true)) (Operand.tmp 76), type := 4, pos := _, after := #[{ on := 27, ground := Ground.data }, { on := 39, ground := Ground.data }], guard := none }) (v := ?_) rfl (by kernel_rfl) (by kernel_rfl) (by kernel_rfl) (fun _ _ _ h => h) (Or.inl ⟨by rfl, ?_⟩) (by assumption) ?_
              rotate_left
              · intro w hSw
                try dsimp only at hSw
                go_simp
                try with_reducible rfl
              try simp only [Act.put, List.setIfInBounds_toArray, List.set_cons_zero, List.set_cons_succ]
              refine wpAnyH_done (by kernel_rfl) ?_ _
              refine NoPanic.normal ?_
              --END12
              go_wp2_with fail
              go_roundw
              case rel => exact ⟨k + 3, by simp, by omega, hHeld.2.2.below, hHeld.2.2.tab, hHeld.2.2.g⟩
              case measure => simp [intOf]; omega
            · obtain ⟨q, hq⟩ : ∃ q : Nat, k = 64 + q := ⟨k - 64, by omega⟩
              have hk9 : ¬ (k : Int) < 64 := by omega
              have HQ := Lib.hid (And.intro hb (And.intro hT hg))
              clear hb hT hg HR hq
              go_wp2_with fail
              obtain ⟨j5, h5⟩ : ∃ m : Nat, (j : Int) * 5 % 64 = (m : Int) := ⟨j * 5 % 64, by omega⟩
              obtain ⟨j7, h7⟩ : ∃ m : Nat, (j : Int) * 7 % 64 = (m : Int) := ⟨j * 7 % 64, by omega⟩
              obtain ⟨j3, h3⟩ : ∃ m : Nat, (j : Int) * 3 % 64 = (m : Int) := ⟨j * 3 % 64, by omega⟩
              obtain ⟨m8, h8⟩ : ∃ m : Nat, (j : Int) % 8 = (m : Int) := ⟨j % 8, by omega⟩
              have t5 : ((j : Int) * 5).tmod 64 = (j5 : Int) := by rw [Int.tmod_eq_emod_of_nonneg (by omega)]; exact h5
              have t7 : ((j : Int) * 7).tmod 64 = (j7 : Int) := by rw [Int.tmod_eq_emod_of_nonneg (by omega)]; exact h7
              have t3 : ((j : Int) * 3).tmod 64 = (j3 : Int) := by rw [Int.tmod_eq_emod_of_nonneg (by omega)]; exact h3
              have t8 : (j : Int).tmod 8 = (m8 : Int) := by rw [Int.tmod_eq_emod_of_nonneg (by omega)]; exact h8
              have i5 : (j5 : Int) < 64 := by omega
              have i7 : (j7 : Int) < 64 := by omega
              have i3 : (j3 : Int) < 64 := by omega
              have z5 : (0 : Int) ≤ (j5 : Int) := by omega
              have z7 : (0 : Int) ≤ (j7 : Int) := by omega
              have z3 : (0 : Int) ≤ (j3 : Int) := by omega
              obtain ⟨b1, c1, l1, r1, e1, t1⟩ := HQ.out.2.1 j hj8
              obtain ⟨b5, c5, l5, r5, e5, tt5⟩ := HQ.out.2.1 j5 (by omega)
              obtain ⟨b7, c7, l7, r7, e7, tt7⟩ := HQ.out.2.1 j7 (by omega)
              obtain ⟨b3, c3, l3, r3, e3, tt3⟩ := HQ.out.2.1 j3 (by omega)
              obtain ⟨xj, hxj⟩ := u8_ofk (j : Int) (by omega)
              have HXJ := Lib.hid hxj
              have H1 := Lib.hid (And.intro e1 (And.intro e5 (And.intro e7 e3)))
              have hd1 := nextN (Mem.start wq) 1
              have H2 := Lib.hid (show wq.drew.cell? ⟨g, j, none⟩ = some (.slice (some ⟨b1, 0, none⟩) 3 3) ∧ wq.drew.cell? ⟨g, j5, none⟩ = some (.slice (some ⟨b5, 0, none⟩) 3 3) ∧ wq.drew.cell? ⟨g, j7, none⟩ = some (.slice (some ⟨b7, 0, none⟩) 3 3) ∧ wq.drew.cell? ⟨g, j3, none⟩ = some (.slice (some ⟨b3, 0, none⟩) 3 3) ∧ Hd w g b1 b5 r1 r5 wq.drew ∧ Hd w g b7 b3 r7 r3 wq.drew from
                ⟨c1, c5, c7, c3, Hd.keep ⟨HQ.out.1, HQ.out.2.1, HQ.out.2.2, t1, tt5⟩ hd1, Hd.keep ⟨HQ.out.1, HQ.out.2.1, HQ.out.2.2, tt7, tt3⟩ hd1⟩)
              have hz8 : m8 = 0 ∨ ¬ m8 = 0 := by omega
              clear h5 h7 h3 h8 l1 e1 t1 l5 e5 tt5 l7 e7 tt7 l3 e3 tt3 c1 c5 c7 c3 hxj hd1
              have hwj : IntKind.u8.wrap (j : Int) = (j : Int) := IntWalk.u8_in _ (by omega)
              have hw5 : IntKind.i64.wrap ((j : Int) * 5) = (j : Int) * 5 := IntWalk.i64_in _ (by omega)
              have hw7 : IntKind.i64.wrap ((j : Int) * 7) = (j : Int) * 7 := IntWalk.i64_in _ (by omega)
              have hw3 : IntKind.i64.wrap ((j : Int) * 3) = (j : Int) * 3 := IntWalk.i64_in _ (by omega)
              --HELD14
              rcases hz8 with rfl | hz8
              · refine wp_region_noPanic ?_
                refine wp_region_held_drew (S := fun w' => w'.cell? ⟨g, j, none⟩ = some (.slice (some ⟨b1, 0, none⟩) 3 3) ∧ w'.cell? ⟨g, j5, none⟩ = some (.slice (some ⟨b5, 0, none⟩) 3 3) ∧ w'.cell? ⟨g, j7, none⟩ = some (.slice (some ⟨b7, 0, none⟩) 3 3) ∧ w'.cell? ⟨g, j3, none⟩ = some (.slice (some ⟨b3, 0, none⟩) 3 3) ∧ Hd w g b1 b5 r1 r5 w' ∧ Hd w g b7 b3 r7 r3 w') (by kernel_rfl) ?hs0 ?rg0
                case hs0 =>
                  exact ⟨H2.out.1, H2.out.2.1, H2.out.2.2.1, H2.out.2.2.2.1, H2.out.2.2.2.2⟩
                case rg0 =>
                intro hHeld
                refine wpAnyH_take (i := 0) (oi := { dst := some 78, op := Op.move (Operand.tmp 1), type := 45, pos := _, after := #[], guard := none }) (v := ?_) rfl (by kernel_rfl) (by kernel_rfl) (by kernel_rfl) (fun _ _ _ h => h) (Or.inl ⟨by rfl, ?_⟩) (by assumption) ?_
                rotate_left
                · intro w hSw
                  try dsimp only at hSw
                  go_simp
                  try with_reducible rfl
                try simp only [Act.put, List.setIfInBounds_toArray, List.set_cons_zero, List.set_cons_succ]
                refine wpAnyH_take (i := 1) (oi := { dst := some 79, op := Op.move (Operand.tmp 3), type := 3, pos := _, after := #[], guard := none }) (v := ?_) rfl (by kernel_rfl) (by kernel_rfl) (by kernel_rfl) (fun _ _ _ h => h) (Or.inl ⟨by rfl, ?_⟩) (by assumption) ?_
                rotate_left
                · intro w hSw
                  try dsimp only at hSw
                  go_simp
                  try with_reducible rfl
                try simp only [Act.put, List.setIfInBounds_toArray, List.set_cons_zero, List.set_cons_succ]
                refine wpAnyH_take (i := 2) (oi := { dst := some 80, op := Op.indexAddr 45 (Operand.tmp 78) (Operand.tmp 79), type := 0, pos := _, after := #[{ on := 0, ground := Ground.data }, { on := 1, ground := Ground.data }], guard := none }) (v := ?_) rfl (by kernel_rfl) (by kernel_rfl) (by kernel_rfl) (fun _ _ _ h => h) (Or.inl ⟨by rfl, ?_⟩) (by assumption) ?_
                rotate_left
                · intro w hSw
                  try dsimp only at hSw
                  go_simp
                  try with_reducible rfl
                try simp only [Act.put, List.setIfInBounds_toArray, List.set_cons_zero, List.set_cons_succ]
                refine wpAnyH_take (i := 3) (oi := { dst := some 81, op := Op.load 22 (Operand.tmp 80), type := 22, pos := _, after := #[{ on := 2, ground := Ground.data }], guard := none }) (v := ?_) rfl (by kernel_rfl) (by kernel_rfl) (by kernel_rfl) (fun _ _ _ h => h) (Or.inl ⟨by rfl, ?_⟩) (by assumption) ?_
                rotate_left
                · intro w hSw
                  try dsimp only at hSw
                  go_simp
                  try with_reducible rfl
                try simp only [Act.put, List.setIfInBounds_toArray, List.set_cons_zero, List.set_cons_succ]
                refine wpAnyH_take (i := 4) (oi := { dst := some 82, op := Op.move (Operand.tmp 1), type := 45, pos := _, after := #[], guard := none }) (v := ?_) rfl (by kernel_rfl) (by kernel_rfl) (by kernel_rfl) (fun _ _ _ h => h) (Or.inl ⟨by rfl, ?_⟩) (by assumption) ?_
                rotate_left
                · intro w hSw
                  try dsimp only at hSw
                  go_simp
                  try with_reducible rfl
                try simp only [Act.put, List.setIfInBounds_toArray, List.set_cons_zero, List.set_cons_succ]
                refine wpAnyH_take (i := 5) (oi := { dst := some 83, op := Op.move (Operand.tmp 3), type := 3, pos := _, after := #[], guard := none }) (v := ?_) rfl (by kernel_rfl) (by kernel_rfl) (by kernel_rfl) (fun _ _ _ h => h) (Or.inl ⟨by rfl, ?_⟩) (by assumption) ?_
                rotate_left
                · intro w hSw
                  try dsimp only at hSw
                  go_simp
                  try with_reducible rfl
                try simp only [Act.put, List.setIfInBounds_toArray, List.set_cons_zero, List.set_cons_succ]
                refine wpAnyH_take (i := 6) (oi := { dst := some 84, op := Op.binOp BinOp.mul 3 (Operand.tmp 83) (Operand.const (Value.int IntKind.i64 5)) 3, type := 3, pos := _, after := #[{ on := 5, ground := Ground.data }], guard := none }) (v := ?_) rfl (by kernel_rfl) (by kernel_rfl) (by kernel_rfl) (fun _ _ _ h => h) (Or.inl ⟨by rfl, ?_⟩) (by assumption) ?_
                rotate_left
                · intro w hSw
                  try dsimp only at hSw
                  go_simp
                  try with_reducible rfl
                try simp only [Act.put, List.setIfInBounds_toArray, List.set_cons_zero, List.set_cons_succ]
                refine wpAnyH_take (i := 7) (oi := { dst := some 85, op := Op.binOp BinOp.rem 3 (Operand.tmp 84) (Operand.const (Value.int IntKind.i64 64)) 3, type := 3, pos := _, after := #[{ on := 6, ground := Ground.data }], guard := none }) (v := ?_) rfl (by kernel_rfl) (by kernel_rfl) (by kernel_rfl) (fun _ _ _ h => h) (Or.inl ⟨by rfl, ?_⟩) (by assumption) ?_
                rotate_left
                · intro w hSw
                  try dsimp only at hSw
                  go_simp
                  try with_reducible rfl
                try simp only [Act.put, List.setIfInBounds_toArray, List.set_cons_zero, List.set_cons_succ]
                refine wpAnyH_take (i := 8) (oi := { dst := some 86, op := Op.indexAddr 45 (Operand.tmp 82) (Operand.tmp 85), type := 0, pos := _, after := #[{ on := 4, ground := Ground.data }, { on := 7, ground := Ground.data }], guard := none }) (v := ?_) rfl (by kernel_rfl) (by kernel_rfl) (by kernel_rfl) (fun _ _ _ h => h) (Or.inl ⟨by rfl, ?_⟩) (by assumption) ?_
                rotate_left
                · intro w hSw
                  try dsimp only at hSw
                  go_simp
                  try with_reducible rfl
                try simp only [Act.put, List.setIfInBounds_toArray, List.set_cons_zero, List.set_cons_succ]
                refine wpAnyH_take (i := 9) (oi := { dst := some 87, op := Op.load 22 (Operand.tmp 86), type := 22, pos := _, after := #[{ on := 8, ground := Ground.data }], guard := none }) (v := ?_) rfl (by kernel_rfl) (by kernel_rfl) (by kernel_rfl) (fun _ _ _ h => h) (Or.inl ⟨by rfl, ?_⟩) (by assumption) ?_
                rotate_left
                · intro w hSw
                  try dsimp only at hSw
                  go_simp
                  try with_reducible rfl
                try simp only [Act.put, List.setIfInBounds_toArray, List.set_cons_zero, List.set_cons_succ]
                refine wpAnyH_take (i := 10) (oi := { dst := some 88, op := Op.move (Operand.tmp 1), type := 45, pos := _, after := #[], guard := none }) (v := ?_) rfl (by kernel_rfl) (by kernel_rfl) (by kernel_rfl) (fun _ _ _ h => h) (Or.inl ⟨by rfl, ?_⟩) (by assumption) ?_
                rotate_left
                · intro w hSw
                  try dsimp only at hSw
                  go_simp
                  try with_reducible rfl
                try simp only [Act.put, List.setIfInBounds_toArray, List.set_cons_zero, List.set_cons_succ]
                refine wpAnyH_take (i := 11) (oi := { dst := some 89, op := Op.move (Operand.tmp 3), type := 3, pos := _, after := #[], guard := none }) (v := ?_) rfl (by kernel_rfl) (by kernel_rfl) (by kernel_rfl) (fun _ _ _ h => h) (Or.inl ⟨by rfl, ?_⟩) (by assumption) ?_
                rotate_left
                · intro w hSw
                  try dsimp only at hSw
                  go_simp
                  try with_reducible rfl
                try simp only [Act.put, List.setIfInBounds_toArray, List.set_cons_zero, List.set_cons_succ]
                refine wpAnyH_take (i := 12) (oi := { dst := some 90, op := Op.indexAddr 45 (Operand.tmp 88) (Operand.tmp 89), type := 0, pos := _, after := #[{ on := 10, ground := Ground.data }, { on := 11, ground := Ground.data }], guard := none }) (v := ?_) rfl (by kernel_rfl) (by kernel_rfl) (by kernel_rfl) (fun _ _ _ h => h) (Or.inl ⟨by rfl, ?_⟩) (by assumption) ?_
                rotate_left
                · intro w hSw
                  try dsimp only at hSw
                  go_simp
                  try with_reducible rfl
                try simp only [Act.put, List.setIfInBounds_toArray, List.set_cons_zero, List.set_cons_succ]
                refine wpAnyH_take (i := 13) (oi := { dst := some 91, op := Op.load 22 (Operand.tmp 90), type := 22, pos := _, after := #[{ on := 12, ground := Ground.data }], guard := none }) (v := ?_) rfl (by kernel_rfl) (by kernel_rfl) (by kernel_rfl) (fun _ _ _ h => h) (Or.inl ⟨by rfl, ?_⟩) (by assumption) ?_
                rotate_left
                · intro w hSw
                  try dsimp only at hSw
                  go_simp
                  try with_reducible rfl
                try simp only [Act.put, List.setIfInBounds_toArray, List.set_cons_zero, List.set_cons_succ]
                refine wpAnyH_take (i := 14) (oi := { dst := some 92, op := Op.move (Operand.tmp 3), type := 3, pos := _, after := #[], guard := none }) (v := ?_) rfl (by kernel_rfl) (by kernel_rfl) (by kernel_rfl) (fun _ _ _ h => h) (Or.inl ⟨by rfl, ?_⟩) (by assumption) ?_
                rotate_left
                · intro w hSw
                  try dsimp only at hSw
                  go_simp
                  try with_reducible rfl
                try simp only [Act.put, List.setIfInBounds_toArray, List.set_cons_zero, List.set_cons_succ]
                refine wpAnyH_take (i := 15) (oi := { dst := some 93, op := Op.convert 3 5 (Operand.tmp 92), type := 5, pos := _, after := #[{ on := 14, ground := Ground.data }], guard := none }) (v := ?_) rfl (by kernel_rfl) (by kernel_rfl) (by kernel_rfl) (fun _ _ _ h => h) (Or.inl ⟨by rfl, ?_⟩) (by assumption) ?_
                rotate_left
                · intro w hSw
                  try dsimp only at hSw
                  go_simp
                  try with_reducible rfl
                try simp only [Act.put, List.setIfInBounds_toArray, List.set_cons_zero, List.set_cons_succ]
                refine wpAnyH_ready (rs := [16]) (by kernel_rfl) (by simp) ?_
                refine AllReadyH.cons (o := { dst := some 94, op := Op.call { callee := Callee.value (Operand.func 4), args := #[Operand.tmp 81, Operand.tmp 87, Operand.tmp 91, Operand.tmp 93], argTypes := #[22, 22, 22, 5] }, type := 4, pos := _, after := #[{ on := 3, ground := Ground.data }, { on := 9, ground := Ground.data }, { on := 13, ground := Ground.data }, { on := 15, ground := Ground.data }], guard := none }) rfl (fun K hK => ?_) AllReadyH.nil
                go_simp
                obtain ⟨q1, q5, q7, q3, h1, h2⟩ := hHeld
                refine (through_n _ (some ⟨b1, 0, none⟩) r1 3 3 H1.out.1 (by omega) h1.b1 (some ⟨b5, 0, none⟩) r5 3 3 H1.out.2.1 (by omega) h1.b2 (some ⟨b1, 0, none⟩) r1 3 3 H1.out.1 (by omega) h1.b1 (j : Int) (by omega)).mono ?_
                rintro e w1 ⟨rfl, hb1⟩
                try dsimp only
                refine hK.out _ _ ?_ (fun hHeld => ?_)
                · try dsimp only
                  exact ⟨(hb1.cell (p := ⟨g, j, none⟩) h1.g).trans q1, (hb1.cell (p := ⟨g, j5, none⟩) h1.g).trans q5, (hb1.cell (p := ⟨g, j7, none⟩) h1.g).trans q7, (hb1.cell (p := ⟨g, j3, none⟩) h1.g).trans q3, h1.keep hb1, h2.keep hb1⟩
                clear hK K
                try simp only [Act.put, List.setIfInBounds_toArray, List.set_cons_zero, List.set_cons_succ]
                refine wpAnyH_take (i := 17) (oi := { dst := some 95, op := Op.unOp UnOp.not 4 (Operand.tmp 94), type := 4, pos := _, after := #[{ on := 16, ground := Ground.data }], guard := none }) (v := ?_) rfl (by kernel_rfl) (by kernel_rfl) (by kernel_rfl) (fun _ _ _ h => h) (Or.inl ⟨by rfl, ?_⟩) (by assumption) ?_
                rotate_left
                · intro w hSw
                  try dsimp only at hSw
                  go_simp
                  try with_reducible rfl
                try simp only [Act.put, List.setIfInBounds_toArray, List.set_cons_zero, List.set_cons_succ]
                refine wpAnyH_take (i := 18) (oi := { dst := some 96, op := Op.move (Operand.tmp 95), type := 4, pos := _, after := #[{ on := 17, ground := Ground.data }, { on := 16, ground := Ground.chain }], guard := none }) (v := ?_) rfl (by kernel_rfl) (by kernel_rfl) (by kernel_rfl) (fun _ _ _ h => h) (Or.inl ⟨by rfl, ?_⟩) (by assumption) ?_
                rotate_left
                · intro w hSw
                  try dsimp only at hSw
                  go_simp
                  try with_reducible rfl
                try simp only [Act.put, List.setIfInBounds_toArray, List.set_cons_zero, List.set_cons_succ]
                refine wpAnyH_take (i := 19) (oi := { dst := some 97, op := Op.move (Operand.tmp 1), type := 45, pos := _, after := #[{ on := 18, ground := Ground.guard }], guard := some (18, false) }) (v := ?_) rfl (by kernel_rfl) (by kernel_rfl) (by kernel_rfl) (fun _ _ _ h => h) (Or.inl ⟨by rfl, ?_⟩) (by assumption) ?_
                rotate_left
                · intro w hSw
                  try dsimp only at hSw
                  go_simp
                  try with_reducible rfl
                try simp only [Act.put, List.setIfInBounds_toArray, List.set_cons_zero, List.set_cons_succ]
                refine wpAnyH_take (i := 20) (oi := { dst := some 98, op := Op.move (Operand.tmp 3), type := 3, pos := _, after := #[{ on := 18, ground := Ground.guard }], guard := some (18, false) }) (v := ?_) rfl (by kernel_rfl) (by kernel_rfl) (by kernel_rfl) (fun _ _ _ h => h) (Or.inl ⟨by rfl, ?_⟩) (by assumption) ?_
                rotate_left
                · intro w hSw
                  try dsimp only at hSw
                  go_simp
                  try with_reducible rfl
                try simp only [Act.put, List.setIfInBounds_toArray, List.set_cons_zero, List.set_cons_succ]
                refine wpAnyH_take (i := 21) (oi := { dst := some 99, op := Op.indexAddr 45 (Operand.tmp 97) (Operand.tmp 98), type := 0, pos := _, after := #[{ on := 19, ground := Ground.data }, { on := 20, ground := Ground.data }, { on := 18, ground := Ground.guard }], guard := some (18, false) }) (v := ?_) rfl (by kernel_rfl) (by kernel_rfl) (by kernel_rfl) (fun _ _ _ h => h) (Or.inl ⟨by rfl, ?_⟩) (by assumption) ?_
                rotate_left
                · intro w hSw
                  try dsimp only at hSw
                  go_simp
                  try with_reducible rfl
                try simp only [Act.put, List.setIfInBounds_toArray, List.set_cons_zero, List.set_cons_succ]
                refine wpAnyH_take (i := 22) (oi := { dst := some 100, op := Op.load 22 (Operand.tmp 99), type := 22, pos := _, after := #[{ on := 21, ground := Ground.data }, { on := 18, ground := Ground.guard }], guard := some (18, false) }) (v := ?_) rfl (by kernel_rfl) (by kernel_rfl) (by kernel_rfl) (fun _ _ _ h => h) (Or.inl ⟨by rfl, ?_⟩) (by assumption) ?_
                rotate_left
                · intro w hSw
                  try dsimp only at hSw
                  go_simp
                  try with_reducible rfl
                try simp only [Act.put, List.setIfInBounds_toArray, List.set_cons_zero, List.set_cons_succ]
                refine wpAnyH_take (i := 23) (oi := { dst := some 101, op := Op.move (Operand.tmp 3), type := 3, pos := _, after := #[{ on := 18, ground := Ground.guard }], guard := some (18, false) }) (v := ?_) rfl (by kernel_rfl) (by kernel_rfl) (by kernel_rfl) (fun _ _ _ h => h) (Or.inl ⟨by rfl, ?_⟩) (by assumption) ?_
                rotate_left
                · intro w hSw
                  try dsimp only at hSw
                  go_simp
                  try with_reducible rfl
                try simp only [Act.put, List.setIfInBounds_toArray, List.set_cons_zero, List.set_cons_succ]
                refine wpAnyH_take (i := 24) (oi := { dst := some 102, op := Op.convert 3 5 (Operand.tmp 101), type := 5, pos := _, after := #[{ on := 23, ground := Ground.data }, { on := 18, ground := Ground.guard }], guard := some (18, false) }) (v := ?_) rfl (by kernel_rfl) (by kernel_rfl) (by kernel_rfl) (fun _ _ _ h => h) (Or.inl ⟨by rfl, ?_⟩) (by assumption) ?_
                rotate_left
                · intro w hSw
                  try dsimp only at hSw
                  go_simp
                  try with_reducible rfl
                try simp only [Act.put, List.setIfInBounds_toArray, List.set_cons_zero, List.set_cons_succ]
                refine wpAnyH_take (i := 26) (oi := { dst := some 104, op := Op.move (Operand.tmp 1), type := 45, pos := _, after := #[{ on := 18, ground := Ground.guard }], guard := some (18, false) }) (v := ?_) rfl (by kernel_rfl) (by kernel_rfl) (by kernel_rfl) (fun _ _ _ h => h) (Or.inl ⟨by rfl, ?_⟩) (by assumption) ?_
                rotate_left
                · intro w hSw
                  try dsimp only at hSw
                  go_simp
                  try with_reducible rfl
                try simp only [Act.put, List.setIfInBounds_toArray, List.set_cons_zero, List.set_cons_succ]
                refine wpAnyH_take (i := 27) (oi := { dst := some 105, op := Op.move (Operand.tmp 3), type := 3, pos := _, after := #[{ on := 18, ground := Ground.guard }], guard := some (18, false) }) (v := ?_) rfl (by kernel_rfl) (by kernel_rfl) (by kernel_rfl) (fun _ _ _ h => h) (Or.inl ⟨by rfl, ?_⟩) (by assumption) ?_
                rotate_left
                · intro w hSw
                  try dsimp only at hSw
                  go_simp
                  try with_reducible rfl
                try simp only [Act.put, List.setIfInBounds_toArray, List.set_cons_zero, List.set_cons_succ]
                refine wpAnyH_take (i := 28) (oi := { dst := some 106, op := Op.binOp BinOp.mul 3 (Operand.tmp 105) (Operand.const (Value.int IntKind.i64 7)) 3, type := 3, pos := _, after := #[{ on := 27, ground := Ground.data }, { on := 18, ground := Ground.guard }], guard := some (18, false) }) (v := ?_) rfl (by kernel_rfl) (by kernel_rfl) (by kernel_rfl) (fun _ _ _ h => h) (Or.inl ⟨by rfl, ?_⟩) (by assumption) ?_
                rotate_left
                · intro w hSw
                  try dsimp only at hSw
                  go_simp
                  try with_reducible rfl
                try simp only [Act.put, List.setIfInBounds_toArray, List.set_cons_zero, List.set_cons_succ]
                refine wpAnyH_take (i := 29) (oi := { dst := some 107, op := Op.binOp BinOp.rem 3 (Operand.tmp 106) (Operand.const (Value.int IntKind.i64 64)) 3, type := 3, pos := _, after := #[{ on := 28, ground := Ground.data }, { on := 18, ground := Ground.guard }], guard := some (18, false) }) (v := ?_) rfl (by kernel_rfl) (by kernel_rfl) (by kernel_rfl) (fun _ _ _ h => h) (Or.inl ⟨by rfl, ?_⟩) (by assumption) ?_
                rotate_left
                · intro w hSw
                  try dsimp only at hSw
                  go_simp
                  try with_reducible rfl
                try simp only [Act.put, List.setIfInBounds_toArray, List.set_cons_zero, List.set_cons_succ]
                refine wpAnyH_take (i := 30) (oi := { dst := some 108, op := Op.indexAddr 45 (Operand.tmp 104) (Operand.tmp 107), type := 0, pos := _, after := #[{ on := 26, ground := Ground.data }, { on := 29, ground := Ground.data }, { on := 18, ground := Ground.guard }], guard := some (18, false) }) (v := ?_) rfl (by kernel_rfl) (by kernel_rfl) (by kernel_rfl) (fun _ _ _ h => h) (Or.inl ⟨by rfl, ?_⟩) (by assumption) ?_
                rotate_left
                · intro w hSw
                  try dsimp only at hSw
                  go_simp
                  try with_reducible rfl
                try simp only [Act.put, List.setIfInBounds_toArray, List.set_cons_zero, List.set_cons_succ]
                refine wpAnyH_take (i := 31) (oi := { dst := some 109, op := Op.load 22 (Operand.tmp 108), type := 22, pos := _, after := #[{ on := 30, ground := Ground.data }, { on := 18, ground := Ground.guard }], guard := some (18, false) }) (v := ?_) rfl (by kernel_rfl) (by kernel_rfl) (by kernel_rfl) (fun _ _ _ h => h) (Or.inl ⟨by rfl, ?_⟩) (by assumption) ?_
                rotate_left
                · intro w hSw
                  try dsimp only at hSw
                  go_simp
                  try with_reducible rfl
                try simp only [Act.put, List.setIfInBounds_toArray, List.set_cons_zero, List.set_cons_succ]
                refine wpAnyH_ready (rs := [25]) (by kernel_rfl) (by simp) ?_
                refine AllReadyH.cons (o := { dst := some 103, op := Op.buildSlice 22 3 #[(0, Operand.const (Value.int IntKind.u8 1)), (1, Operand.const (Value.int IntKind.u8 2)), (2, Operand.tmp 102)], type := 22, pos := _, after := #[{ on := 24, ground := Ground.data }, { on := 18, ground := Ground.guard }], guard := some (18, false) }) rfl (fun K hK => ?_) AllReadyH.nil
                have hbd := build3 w1 1 2 (j : Int)
                go_simp
                obtain ⟨q1, q5, q7, q3, h1, h2⟩ := hHeld
                try dsimp only
                refine hK.out _ _ ?_ (fun hHeld => ?_)
                · try dsimp only
                  have hb1 := nextA (Mem.start w1) (.cells #[.int .u8 1, .int .u8 2, .int .u8 (j : Int)] 5)
                  exact ⟨(hb1.cell (p := ⟨g, j, none⟩) h1.g).trans q1, (hb1.cell (p := ⟨g, j5, none⟩) h1.g).trans q5, (hb1.cell (p := ⟨g, j7, none⟩) h1.g).trans q7, (hb1.cell (p := ⟨g, j3, none⟩) h1.g).trans q3, h1.keep hb1, h2.keep hb1⟩
                clear hK K
                try simp only [Act.put, List.setIfInBounds_toArray, List.set_cons_zero, List.set_cons_succ]
                refine wpAnyH_ready (rs := [32]) (by kernel_rfl) (by simp) ?_
                refine AllReadyH.cons (o := { dst := some 110, op := Op.call { callee := Callee.value (Operand.func 7), args := #[Operand.tmp 100, Operand.tmp 103, Operand.tmp 109], argTypes := #[22, 22, 22] }, type := 4, pos := _, after := #[{ on := 22, ground := Ground.data }, { on := 25, ground := Ground.data }, { on := 31, ground := Ground.data }, { on := 18, ground := Ground.chain }, { on := 18, ground := Ground.guard }], guard := some (18, false) }) rfl (fun K hK => ?_) AllReadyH.nil
                go_simp
                obtain ⟨q1, q5, q7, q3, h1, h2⟩ := hHeld
                refine (only_n _ (some ⟨b1, 0, none⟩) r1 3 3 H1.out.1 (by omega) h1.b1 (some ⟨w1.heap.size, 0, none⟩) [1, 2, xj] 3 3 rfl (by omega) (Bytes.new w1 [1, 2, xj] 5 (0, 0) _ (by simp [u8v, HXJ.out]) _ (by simp)) (some ⟨b7, 0, none⟩) r7 3 3 H1.out.2.2.1 (by omega) h2.b1).mono ?_
                rintro e w1 ⟨rfl, hb1⟩
                try dsimp only
                refine hK.out _ _ ?_ (fun hHeld => ?_)
                · try dsimp only
                  exact ⟨(hb1.cell (p := ⟨g, j, none⟩) h1.g).trans q1, (hb1.cell (p := ⟨g, j5, none⟩) h1.g).trans q5, (hb1.cell (p := ⟨g, j7, none⟩) h1.g).trans q7, (hb1.cell (p := ⟨g, j3, none⟩) h1.g).trans q3, h1.keep hb1, h2.keep hb1⟩
                clear hK K
                try simp only [Act.put, List.setIfInBounds_toArray, List.set_cons_zero, List.set_cons_succ]
                refine wpAnyH_take (i := 33) (oi := { dst := some 111, op := Op.unOp UnOp.not 4 (Operand.tmp 110), type := 4, pos := _, after := #[{ on := 32, ground := Ground.data }, { on := 18, ground := Ground.guard }], guard := some (18, false) }) (v := ?_) rfl (by kernel_rfl) (by kernel_rfl) (by kernel_rfl) (fun _ _ _ h => h) (Or.inl ⟨by rfl, ?_⟩) (by assumption) ?_
                rotate_left
                · intro w hSw
                  try dsimp only at hSw
                  go_simp
                  try with_reducible rfl
                try simp only [Act.put, List.setIfInBounds_toArray, List.set_cons_zero, List.set_cons_succ]
                refine wpAnyH_take (i := 34) (oi := { dst := some 112, op := Op.pick (Operand.tmp 96) (Operand.const (Value.bool true)) (Operand.tmp 111), type := 4, pos := _, after := #[{ on := 18, ground := Ground.data }, { on := 33, ground := Ground.data }], guard := none }) (v := ?_) rfl (by kernel_rfl) (by kernel_rfl) (by kernel_rfl) (fun _ _ _ h => h) (Or.inl ⟨by rfl, ?_⟩) (by assumption) ?_
                rotate_left
                · intro w hSw
                  try dsimp only at hSw
                  go_simp
                  try with_reducible rfl
                try simp only [Act.put, List.setIfInBounds_toArray, List.set_cons_zero, List.set_cons_succ]
                refine wpAnyH_take (i := 35) (oi := { dst := some 113, op := Op.move (Operand.tmp 112), type := 4, pos := _, after := #[{ on := 34, ground := Ground.data }, { on := 32, ground := Ground.chain }], guard := none }) (v := ?_) rfl (by kernel_rfl) (by kernel_rfl) (by kernel_rfl) (fun _ _ _ h => h) (Or.inl ⟨by rfl, ?_⟩) (by assumption) ?_
                rotate_left
                · intro w hSw
                  try dsimp only at hSw
                  go_simp
                  try with_reducible rfl
                try simp only [Act.put, List.setIfInBounds_toArray, List.set_cons_zero, List.set_cons_succ]
                refine wpAnyH_take (i := 36) (oi := { dst := some 114, op := Op.move (Operand.tmp 1), type := 45, pos := _, after := #[{ on := 35, ground := Ground.guard }], guard := some (35, false) }) (v := ?_) rfl (by kernel_rfl) (by kernel_rfl) (by kernel_rfl) (fun _ _ _ h => h) (Or.inl ⟨by rfl, ?_⟩) (by assumption) ?_
                rotate_left
                · intro w hSw
                  try dsimp only at hSw
                  go_simp
                  try with_reducible rfl
                try simp only [Act.put, List.setIfInBounds_toArray, List.set_cons_zero, List.set_cons_succ]
                refine wpAnyH_take (i := 37) (oi := { dst := some 115, op := Op.move (Operand.tmp 3), type := 3, pos := _, after := #[{ on := 35, ground := Ground.guard }], guard := some (35, false) }) (v := ?_) rfl (by kernel_rfl) (by kernel_rfl) (by kernel_rfl) (fun _ _ _ h => h) (Or.inl ⟨by rfl, ?_⟩) (by assumption) ?_
                rotate_left
                · intro w hSw
                  try dsimp only at hSw
                  go_simp
                  try with_reducible rfl
                try simp only [Act.put, List.setIfInBounds_toArray, List.set_cons_zero, List.set_cons_succ]
                refine wpAnyH_take (i := 38) (oi := { dst := some 116, op := Op.indexAddr 45 (Operand.tmp 114) (Operand.tmp 115), type := 0, pos := _, after := #[{ on := 36, ground := Ground.data }, { on := 37, ground := Ground.data }, { on := 35, ground := Ground.guard }], guard := some (35, false) }) (v := ?_) rfl (by kernel_rfl) (by kernel_rfl) (by kernel_rfl) (fun _ _ _ h => h) (Or.inl ⟨by rfl, ?_⟩) (by assumption) ?_
                rotate_left
                · intro w hSw
                  try dsimp only at hSw
                  go_simp
                  try with_reducible rfl
                try simp only [Act.put, List.setIfInBounds_toArray, List.set_cons_zero, List.set_cons_succ]
                refine wpAnyH_take (i := 39) (oi := { dst := some 117, op := Op.load 22 (Operand.tmp 116), type := 22, pos := _, after := #[{ on := 38, ground := Ground.data }, { on := 35, ground := Ground.guard }], guard := some (35, false) }) (v := ?_) rfl (by kernel_rfl) (by kernel_rfl) (by kernel_rfl) (fun _ _ _ h => h) (Or.inl ⟨by rfl, ?_⟩) (by assumption) ?_
                rotate_left
                · intro w hSw
                  try dsimp only at hSw
                  go_simp
                  try with_reducible rfl
                try simp only [Act.put, List.setIfInBounds_toArray, List.set_cons_zero, List.set_cons_succ]
                refine wpAnyH_take (i := 41) (oi := { dst := some 119, op := Op.move (Operand.tmp 1), type := 45, pos := _, after := #[{ on := 35, ground := Ground.guard }], guard := some (35, false) }) (v := ?_) rfl (by kernel_rfl) (by kernel_rfl) (by kernel_rfl) (fun _ _ _ h => h) (Or.inl ⟨by rfl, ?_⟩) (by assumption) ?_
                rotate_left
                · intro w hSw
                  try dsimp only at hSw
                  go_simp
                  try with_reducible rfl
                try simp only [Act.put, List.setIfInBounds_toArray, List.set_cons_zero, List.set_cons_succ]
                refine wpAnyH_take (i := 42) (oi := { dst := some 120, op := Op.move (Operand.tmp 3), type := 3, pos := _, after := #[{ on := 35, ground := Ground.guard }], guard := some (35, false) }) (v := ?_) rfl (by kernel_rfl) (by kernel_rfl) (by kernel_rfl) (fun _ _ _ h => h) (Or.inl ⟨by rfl, ?_⟩) (by assumption) ?_
                rotate_left
                · intro w hSw
                  try dsimp only at hSw
                  go_simp
                  try with_reducible rfl
                try simp only [Act.put, List.setIfInBounds_toArray, List.set_cons_zero, List.set_cons_succ]
                refine wpAnyH_take (i := 43) (oi := { dst := some 121, op := Op.indexAddr 45 (Operand.tmp 119) (Operand.tmp 120), type := 0, pos := _, after := #[{ on := 41, ground := Ground.data }, { on := 42, ground := Ground.data }, { on := 35, ground := Ground.guard }], guard := some (35, false) }) (v := ?_) rfl (by kernel_rfl) (by kernel_rfl) (by kernel_rfl) (fun _ _ _ h => h) (Or.inl ⟨by rfl, ?_⟩) (by assumption) ?_
                rotate_left
                · intro w hSw
                  try dsimp only at hSw
                  go_simp
                  try with_reducible rfl
                try simp only [Act.put, List.setIfInBounds_toArray, List.set_cons_zero, List.set_cons_succ]
                refine wpAnyH_take (i := 44) (oi := { dst := some 122, op := Op.load 22 (Operand.tmp 121), type := 22, pos := _, after := #[{ on := 43, ground := Ground.data }, { on := 35, ground := Ground.guard }], guard := some (35, false) }) (v := ?_) rfl (by kernel_rfl) (by kernel_rfl) (by kernel_rfl) (fun _ _ _ h => h) (Or.inl ⟨by rfl, ?_⟩) (by assumption) ?_
                rotate_left
                · intro w hSw
                  try dsimp only at hSw
                  go_simp
                  try with_reducible rfl
                try simp only [Act.put, List.setIfInBounds_toArray, List.set_cons_zero, List.set_cons_succ]
                refine wpAnyH_take (i := 45) (oi := { dst := some 123, op := Op.slice 22 (Operand.tmp 122) none (some (Operand.const (Value.int IntKind.i64 2))) none, type := 22, pos := _, after := #[{ on := 44, ground := Ground.data }, { on := 35, ground := Ground.guard }], guard := some (35, false) }) (v := ?_) rfl (by kernel_rfl) (by kernel_rfl) (by kernel_rfl) (fun _ _ _ h => h) (Or.inl ⟨by rfl, ?_⟩) (by assumption) ?_
                rotate_left
                · intro w hSw
                  try dsimp only at hSw
                  go_simp
                  try with_reducible rfl
                try simp only [Act.put, List.setIfInBounds_toArray, List.set_cons_zero, List.set_cons_succ]
                refine wpAnyH_ready (rs := [40]) (by kernel_rfl) (by simp) ?_
                refine AllReadyH.cons (o := { dst := some 118, op := Op.buildSlice 22 2 #[(0, Operand.const (Value.int IntKind.u8 9)), (1, Operand.const (Value.int IntKind.u8 200))], type := 22, pos := _, after := #[{ on := 35, ground := Ground.guard }], guard := some (35, false) }) rfl (fun K hK => ?_) AllReadyH.nil
                have hbd := build2 w1 9 200
                go_simp
                obtain ⟨q1, q5, q7, q3, h1, h2⟩ := hHeld
                try dsimp only
                refine hK.out _ _ ?_ (fun hHeld => ?_)
                · try dsimp only
                  have hb1 := nextA (Mem.start w1) (.cells #[.int .u8 9, .int .u8 200] 5)
                  exact ⟨(hb1.cell (p := ⟨g, j, none⟩) h1.g).trans q1, (hb1.cell (p := ⟨g, j5, none⟩) h1.g).trans q5, (hb1.cell (p := ⟨g, j7, none⟩) h1.g).trans q7, (hb1.cell (p := ⟨g, j3, none⟩) h1.g).trans q3, h1.keep hb1, h2.keep hb1⟩
                clear hK K
                try simp only [Act.put, List.setIfInBounds_toArray, List.set_cons_zero, List.set_cons_succ]
                refine wpAnyH_ready (rs := [46]) (by kernel_rfl) (by simp) ?_
                refine AllReadyH.cons (o := { dst := some 124, op := Op.call { callee := Callee.value (Operand.func 7), args := #[Operand.tmp 117, Operand.tmp 118, Operand.tmp 123], argTypes := #[22, 22, 22] }, type := 4, pos := _, after := #[{ on := 39, ground := Ground.data }, { on := 40, ground := Ground.data }, { on := 45, ground := Ground.data }, { on := 35, ground := Ground.chain }, { on := 35, ground := Ground.guard }], guard := some (35, false) }) rfl (fun K hK => ?_) AllReadyH.nil
                go_simp
                obtain ⟨q1, q5, q7, q3, h1, h2⟩ := hHeld
                refine (only_n _ (some ⟨b1, 0, none⟩) r1 3 3 H1.out.1 (by omega) h1.b1 (some ⟨w1.heap.size, 0, none⟩) [9, 200] 2 2 rfl (by omega) (Bytes.new w1 [9, 200] 5 (0, 0) _ (by simp [u8v]) _ (by simp)) (some ⟨b1, 0, none⟩) (r1.take 2) 2 3 (by rw [List.length_take, H1.out.1]; rfl) (by omega) (h1.b1.take 2)).mono ?_
                rintro e w1 ⟨rfl, hb1⟩
                try dsimp only
                refine hK.out _ _ ?_ (fun hHeld => ?_)
                · try dsimp only
                  exact ⟨(hb1.cell (p := ⟨g, j, none⟩) h1.g).trans q1, (hb1.cell (p := ⟨g, j5, none⟩) h1.g).trans q5, (hb1.cell (p := ⟨g, j7, none⟩) h1.g).trans q7, (hb1.cell (p := ⟨g, j3, none⟩) h1.g).trans q3, h1.keep hb1, h2.keep hb1⟩
                clear hK K
                try simp only [Act.put, List.setIfInBounds_toArray, List.set_cons_zero, List.set_cons_succ]
                refine wpAnyH_take (i := 47) (oi := { dst := some 125, op := Op.unOp UnOp.not 4 (Operand.tmp 124), type := 4, pos := _, after := #[{ on := 46, ground := Ground.data }, { on := 35, ground := Ground.guard }], guard := some (35, false) }) (v := ?_) rfl (by kernel_rfl) (by kernel_rfl) (by kernel_rfl) (fun _ _ _ h => h) (Or.inl ⟨by rfl, ?_⟩) (by assumption) ?_
                rotate_left
                · intro w hSw
                  try dsimp only at hSw
                  go_simp
                  try with_reducible rfl
                try simp only [Act.put, List.setIfInBounds_toArray, List.set_cons_zero, List.set_cons_succ]
                refine wpAnyH_take (i := 48) (oi := { dst := some 126, op := Op.pick (Operand.tmp 113) (Operand.const (Value.bool true)) (Operand.tmp 125), type := 4, pos := _, after := #[{ on := 35, ground := Ground.data }, { on := 47, ground := Ground.data }], guard := none }) (v := ?_) rfl (by kernel_rfl) (by kernel_rfl) (by kernel_rfl) (fun _ _ _ h => h) (Or.inl ⟨by rfl, ?_⟩) (by assumption) ?_
                rotate_left
                · intro w hSw
                  try dsimp only at hSw
                  go_simp
                  try with_reducible rfl
                try simp only [Act.put, List.setIfInBounds_toArray, List.set_cons_zero, List.set_cons_succ]
                refine wpAnyH_take (i := 49) (oi := { dst := some 127, op := Op.move (Operand.tmp 126), type := 4, pos := _, after := #[{ on := 48, ground := Ground.data }, { on := 46, ground := Ground.chain }], guard := none }) (v := ?_) rfl (by kernel_rfl) (by kernel_rfl) (by kernel_rfl) (fun _ _ _ h => h) (Or.inl ⟨by rfl, ?_⟩) (by assumption) ?_
                rotate_left
                · intro w hSw
                  try dsimp only at hSw
                  go_simp
                  try with_reducible rfl
                try simp only [Act.put, List.setIfInBounds_toArray, List.set_cons_zero, List.set_cons_succ]
                refine wpAnyH_take (i := 50) (oi := { dst := some 128, op := Op.move (Operand.tmp 3), type := 3, pos := _, after := #[{ on := 49, ground := Ground.guard }], guard := some (49, false) }) (v := ?_) rfl (by kernel_rfl) (by kernel_rfl) (by kernel_rfl) (fun _ _ _ h => h) (Or.inl ⟨by rfl, ?_⟩) (by assumption) ?_
                rotate_left
                · intro w hSw
                  try dsimp only at hSw
                  go_simp
                  try with_reducible rfl
                try simp only [Act.put, List.setIfInBounds_toArray, List.set_cons_zero, List.set_cons_succ]
                refine wpAnyH_take (i := 51) (oi := { dst := some 129, op := Op.binOp BinOp.rem 3 (Operand.tmp 128) (Operand.const (Value.int IntKind.i64 8)) 3, type := 3, pos := _, after := #[{ on := 50, ground := Ground.data }, { on := 49, ground := Ground.guard }], guard := some (49, false) }) (v := ?_) rfl (by kernel_rfl) (by kernel_rfl) (by kernel_rfl) (fun _ _ _ h => h) (Or.inl ⟨by rfl, ?_⟩) (by assumption) ?_
                rotate_left
                · intro w hSw
                  try dsimp only at hSw
                  go_simp
                  try with_reducible rfl
                try simp only [Act.put, List.setIfInBounds_toArray, List.set_cons_zero, List.set_cons_succ]
                refine wpAnyH_take (i := 52) (oi := { dst := some 130, op := Op.binOp BinOp.eql 3 (Operand.tmp 129) (Operand.const (Value.int IntKind.i64 0)) 3, type := 4, pos := _, after := #[{ on := 51, ground := Ground.data }, { on := 49, ground := Ground.guard }], guard := some (49, false) }) (v := ?_) rfl (by kernel_rfl) (by kernel_rfl) (by kernel_rfl) (fun _ _ _ h => h) (Or.inl ⟨by rfl, ?_⟩) (by assumption) ?_
                rotate_left
                · intro w hSw
                  try dsimp only at hSw
                  go_simp
                  try with_reducible rfl
                try simp only [Act.put, List.setIfInBounds_toArray, List.set_cons_zero, List.set_cons_succ]
                refine wpAnyH_take (i := 53) (oi := { dst := some 131, op := Op.move (Operand.tmp 130), type := 4, pos := _, after := #[{ on := 52, ground := Ground.data }, { on := 49, ground := Ground.chain }, { on := 49, ground := Ground.guard }], guard := some (49, false) }) (v := ?_) rfl (by kernel_rfl) (by kernel_rfl) (by kernel_rfl) (fun _ _ _ h => h) (Or.inl ⟨by rfl, ?_⟩) (by assumption) ?_
                rotate_left
                · intro w hSw
                  try dsimp only at hSw
                  go_simp
                  try with_reducible rfl
                try simp only [Act.put, List.setIfInBounds_toArray, List.set_cons_zero, List.set_cons_succ]
                refine wpAnyH_take (i := 54) (oi := { dst := some 132, op := Op.move (Operand.tmp 1), type := 45, pos := _, after := #[{ on := 53, ground := Ground.guard }], guard := some (53, true) }) (v := ?_) rfl (by kernel_rfl) (by kernel_rfl) (by kernel_rfl) (fun _ _ _ h => h) (Or.inl ⟨by rfl, ?_⟩) (by assumption) ?_
                rotate_left
                · intro w hSw
                  try dsimp only at hSw
                  go_simp
                  try with_reducible rfl
                try simp only [Act.put, List.setIfInBounds_toArray, List.set_cons_zero, List.set_cons_succ]
                refine wpAnyH_take (i := 55) (oi := { dst := some 133, op := Op.move (Operand.tmp 3), type := 3, pos := _, after := #[{ on := 53, ground := Ground.guard }], guard := some (53, true) }) (v := ?_) rfl (by kernel_rfl) (by kernel_rfl) (by kernel_rfl) (fun _ _ _ h => h) (Or.inl ⟨by rfl, ?_⟩) (by assumption) ?_
                rotate_left
                · intro w hSw
                  try dsimp only at hSw
                  go_simp
                  try with_reducible rfl
                try simp only [Act.put, List.setIfInBounds_toArray, List.set_cons_zero, List.set_cons_succ]
                refine wpAnyH_take (i := 56) (oi := { dst := some 134, op := Op.indexAddr 45 (Operand.tmp 132) (Operand.tmp 133), type := 0, pos := _, after := #[{ on := 54, ground := Ground.data }, { on := 55, ground := Ground.data }, { on := 53, ground := Ground.guard }], guard := some (53, true) }) (v := ?_) rfl (by kernel_rfl) (by kernel_rfl) (by kernel_rfl) (fun _ _ _ h => h) (Or.inl ⟨by rfl, ?_⟩) (by assumption) ?_
                rotate_left
                · intro w hSw
                  try dsimp only at hSw
                  go_simp
                  try with_reducible rfl
                try simp only [Act.put, List.setIfInBounds_toArray, List.set_cons_zero, List.set_cons_succ]
                refine wpAnyH_take (i := 57) (oi := { dst := some 135, op := Op.load 22 (Operand.tmp 134), type := 22, pos := _, after := #[{ on := 56, ground := Ground.data }, { on := 53, ground := Ground.guard }], guard := some (53, true) }) (v := ?_) rfl (by kernel_rfl) (by kernel_rfl) (by kernel_rfl) (fun _ _ _ h => h) (Or.inl ⟨by rfl, ?_⟩) (by assumption) ?_
                rotate_left
                · intro w hSw
                  try dsimp only at hSw
                  go_simp
                  try with_reducible rfl
                try simp only [Act.put, List.setIfInBounds_toArray, List.set_cons_zero, List.set_cons_succ]
                refine wpAnyH_take (i := 58) (oi := { dst := some 136, op := Op.move (Operand.tmp 1), type := 45, pos := _, after := #[{ on := 53, ground := Ground.guard }], guard := some (53, true) }) (v := ?_) rfl (by kernel_rfl) (by kernel_rfl) (by kernel_rfl) (fun _ _ _ h => h) (Or.inl ⟨by rfl, ?_⟩) (by assumption) ?_
                rotate_left
                · intro w hSw
                  try dsimp only at hSw
                  go_simp
                  try with_reducible rfl
                try simp only [Act.put, List.setIfInBounds_toArray, List.set_cons_zero, List.set_cons_succ]
                refine wpAnyH_take (i := 59) (oi := { dst := some 137, op := Op.move (Operand.tmp 3), type := 3, pos := _, after := #[{ on := 53, ground := Ground.guard }], guard := some (53, true) }) (v := ?_) rfl (by kernel_rfl) (by kernel_rfl) (by kernel_rfl) (fun _ _ _ h => h) (Or.inl ⟨by rfl, ?_⟩) (by assumption) ?_
                rotate_left
                · intro w hSw
                  try dsimp only at hSw
                  go_simp
                  try with_reducible rfl
                try simp only [Act.put, List.setIfInBounds_toArray, List.set_cons_zero, List.set_cons_succ]
                refine wpAnyH_take (i := 60) (oi := { dst := some 138, op := Op.binOp BinOp.mul 3 (Operand.tmp 137) (Operand.const (Value.int IntKind.i64 3)) 3, type := 3, pos := _, after := #[{ on := 59, ground := Ground.data }, { on := 53, ground := Ground.guard }], guard := some (53, true) }) (v := ?_) rfl (by kernel_rfl) (by kernel_rfl) (by kernel_rfl) (fun _ _ _ h => h) (Or.inl ⟨by rfl, ?_⟩) (by assumption) ?_
                rotate_left
                · intro w hSw
                  try dsimp only at hSw
                  go_simp
                  try with_reducible rfl
                try simp only [Act.put, List.setIfInBounds_toArray, List.set_cons_zero, List.set_cons_succ]
                refine wpAnyH_take (i := 61) (oi := { dst := some 139, op := Op.binOp BinOp.rem 3 (Operand.tmp 138) (Operand.const (Value.int IntKind.i64 64)) 3, type := 3, pos := _, after := #[{ on := 60, ground := Ground.data }, { on := 53, ground := Ground.guard }], guard := some (53, true) }) (v := ?_) rfl (by kernel_rfl) (by kernel_rfl) (by kernel_rfl) (fun _ _ _ h => h) (Or.inl ⟨by rfl, ?_⟩) (by assumption) ?_
                rotate_left
                · intro w hSw
                  try dsimp only at hSw
                  go_simp
                  try with_reducible rfl
                try simp only [Act.put, List.setIfInBounds_toArray, List.set_cons_zero, List.set_cons_succ]
                refine wpAnyH_take (i := 62) (oi := { dst := some 140, op := Op.indexAddr 45 (Operand.tmp 136) (Operand.tmp 139), type := 0, pos := _, after := #[{ on := 58, ground := Ground.data }, { on := 61, ground := Ground.data }, { on := 53, ground := Ground.guard }], guard := some (53, true) }) (v := ?_) rfl (by kernel_rfl) (by kernel_rfl) (by kernel_rfl) (fun _ _ _ h => h) (Or.inl ⟨by rfl, ?_⟩) (by assumption) ?_
                rotate_left
                · intro w hSw
                  try dsimp only at hSw
                  go_simp
                  try with_reducible rfl
                try simp only [Act.put, List.setIfInBounds_toArray, List.set_cons_zero, List.set_cons_succ]
                refine wpAnyH_take (i := 63) (oi := { dst := some 141, op := Op.load 22 (Operand.tmp 140), type := 22, pos := _, after := #[{ on := 62, ground := Ground.data }, { on := 53, ground := Ground.guard }], guard := some (53, true) }) (v := ?_) rfl (by kernel_rfl) (by kernel_rfl) (by kernel_rfl) (fun _ _ _ h => h) (Or.inl ⟨by rfl, ?_⟩) (by assumption) ?_
                rotate_left
                · intro w hSw
                  try dsimp only at hSw
                  go_simp
                  try with_reducible rfl
                try simp only [Act.put, List.setIfInBounds_toArray, List.set_cons_zero, List.set_cons_succ]
                refine wpAnyH_ready (rs := [64]) (by kernel_rfl) (by simp) ?_
                refine AllReadyH.cons (o := { dst := some 142, op := Op.call { callee := Callee.value (Operand.func 8), args := #[Operand.tmp 135, Operand.tmp 141], argTypes := #[22, 22] }, type := 4, pos := _, after := #[{ on := 57, ground := Ground.data }, { on := 63, ground := Ground.data }, { on := 53, ground := Ground.chain }, { on := 53, ground := Ground.guard }], guard := some (53, true) }) rfl (fun K hK => ?_) AllReadyH.nil
                go_simp
                obtain ⟨q1, q5, q7, q3, h1, h2⟩ := hHeld
                refine (roots_n _ (some ⟨b1, 0, none⟩) r1 3 3 H1.out.1 (by omega) h1.b1 (some ⟨b3, 0, none⟩) r3 3 3 H1.out.2.2.2 (by omega) h2.b2).mono ?_
                rintro e w1 ⟨rfl, hb1⟩
                try dsimp only
                refine hK.out _ _ ?_ (fun hHeld => ?_)
                · try dsimp only
                  exact ⟨(hb1.cell (p := ⟨g, j, none⟩) h1.g).trans q1, (hb1.cell (p := ⟨g, j5, none⟩) h1.g).trans q5, (hb1.cell (p := ⟨g, j7, none⟩) h1.g).trans q7, (hb1.cell (p := ⟨g, j3, none⟩) h1.g).trans q3, h1.keep hb1, h2.keep hb1⟩
                clear hK K
                try simp only [Act.put, List.setIfInBounds_toArray, List.set_cons_zero, List.set_cons_succ]
                refine wpAnyH_take (i := 65) (oi := { dst := some 143, op := Op.unOp UnOp.not 4 (Operand.tmp 142), type := 4, pos := _, after := #[{ on := 64, ground := Ground.data }, { on := 53, ground := Ground.guard }], guard := some (53, true) }) (v := ?_) rfl (by kernel_rfl) (by kernel_rfl) (by kernel_rfl) (fun _ _ _ h => h) (Or.inl ⟨by rfl, ?_⟩) (by assumption) ?_
                rotate_left
                · intro w hSw
                  try dsimp only at hSw
                  go_simp
                  try with_reducible rfl
                try simp only [Act.put, List.setIfInBounds_toArray, List.set_cons_zero, List.set_cons_succ]
                refine wpAnyH_take (i := 66) (oi := { dst := some 144, op := Op.pick (Operand.tmp 131) (Operand.tmp 143) (Operand.const (Value.bool false)), type := 4, pos := _, after := #[{ on := 53, ground := Ground.data }, { on := 65, ground := Ground.data }, { on := 49, ground := Ground.guard }], guard := some (49, false) }) (v := ?_) rfl (by kernel_rfl) (by kernel_rfl) (by kernel_rfl) (fun _ _ _ h => h) (Or.inl ⟨by rfl, ?_⟩) (by assumption) ?_
                rotate_left
                · intro w hSw
                  try dsimp only at hSw
                  go_simp
                  try with_reducible rfl
                try simp only [Act.put, List.setIfInBounds_toArray, List.set_cons_zero, List.set_cons_succ]
                refine wpAnyH_take (i := 67) (oi := { dst := some 145, op := Op.pick (Operand.tmp 127) (Operand.const (Value.bool true)) (Operand.tmp 144), type := 4, pos := _, after := #[{ on := 49, ground := Ground.data }, { on := 66, ground := Ground.data }], guard := none }) (v := ?_) rfl (by kernel_rfl) (by kernel_rfl) (by kernel_rfl) (fun _ _ _ h => h) (Or.inl ⟨by rfl, ?_⟩) (by assumption) ?_
                rotate_left
                · intro w hSw
                  try dsimp only at hSw
                  go_simp
                  try with_reducible rfl
                try simp only [Act.put, List.setIfInBounds_toArray, List.set_cons_zero, List.set_cons_succ]
                refine wpAnyH_done (by kernel_rfl) ?_ _
                refine NoPanic.normal ?_
                go_wp2_with fail
                go_roundw
                case rel => exact ⟨j + 1, by simp, by omega, hHeld.2.2.2.2.1.below, hHeld.2.2.2.2.1.tab, hHeld.2.2.2.2.1.g⟩
                case measure => simp [intOf]; omega
              · have hn8 : ((m8 : Int) == 0) = false := by simp; omega
                refine wp_region_noPanic ?_
                refine wp_region_held_drew (S := fun w' => w'.cell? ⟨g, j, none⟩ = some (.slice (some ⟨b1, 0, none⟩) 3 3) ∧ w'.cell? ⟨g, j5, none⟩ = some (.slice (some ⟨b5, 0, none⟩) 3 3) ∧ w'.cell? ⟨g, j7, none⟩ = some (.slice (some ⟨b7, 0, none⟩) 3 3) ∧ w'.cell? ⟨g, j3, none⟩ = some (.slice (some ⟨b3, 0, none⟩) 3 3) ∧ Hd w g b1 b5 r1 r5 w' ∧ Hd w g b7 b3 r7 r3 w') (by kernel_rfl) ?hs0 ?rg0
                case hs0 =>
                  exact ⟨H2.out.1, H2.out.2.1, H2.out.2.2.1, H2.out.2.2.2.1, H2.out.2.2.2.2⟩
                case rg0 =>
                intro hHeld
                refine wpAnyH_take (i := 0) (oi := { dst := some 78, op := Op.move (Operand.tmp 1), type := 45, pos := _, after := #[], guard := none }) (v := ?_) rfl (by kernel_rfl) (by kernel_rfl) (by kernel_rfl) (fun _ _ _ h => h) (Or.inl ⟨by rfl, ?_⟩) (by assumption) ?_
                rotate_left
                · intro w hSw
                  try dsimp only at hSw
                  go_simp
                  try with_reducible rfl
                try simp only [Act.put, List.setIfInBounds_toArray, List.set_cons_zero, List.set_cons_succ]
                refine wpAnyH_take (i := 1) (oi := { dst := some 79, op := Op.move (Operand.tmp 3), type := 3, pos := _, after := #[], guard := none }) (v := ?_) rfl (by kernel_rfl) (by kernel_rfl) (by kernel_rfl) (fun _ _ _ h => h) (Or.inl ⟨by rfl, ?_⟩) (by assumption) ?_
                rotate_left
                · intro w hSw
                  try dsimp only at hSw
                  go_simp
                  try with_reducible rfl
                try simp only [Act.put, List.setIfInBounds_toArray, List.set_cons_zero, List.set_cons_succ]
                refine wpAnyH_take (i := 2) (oi := { dst := some 80, op := Op.indexAddr 45 (Operand.tmp 78) (Operand.tmp 79), type := 0, pos := _, after := #[{ on := 0, ground := Ground.data }, { on := 1, ground := Ground.data }], guard := none }) (v := ?_) rfl (by kernel_rfl) (by kernel_rfl) (by kernel_rfl) (fun _ _ _ h => h) (Or.inl ⟨by rfl, ?_⟩) (by assumption) ?_
                rotate_left
                · intro w hSw
                  try dsimp only at hSw
                  go_simp
                  try with_reducible rfl
                try simp only [Act.put, List.setIfInBounds_toArray, List.set_cons_zero, List.set_cons_succ]
                refine wpAnyH_take (i := 3) (oi := { dst := some 81, op := Op.load 22 (Operand.tmp 80), type := 22, pos := _, after := #[{ on := 2, ground := Ground.data }], guard := none }) (v := ?_) rfl (by kernel_rfl) (by kernel_rfl) (by kernel_rfl) (fun _ _ _ h => h) (Or.inl ⟨by rfl, ?_⟩) (by assumption) ?_
                rotate_left
                · intro w hSw
                  try dsimp only at hSw
                  go_simp
                  try with_reducible rfl
                try simp only [Act.put, List.setIfInBounds_toArray, List.set_cons_zero, List.set_cons_succ]
                refine wpAnyH_take (i := 4) (oi := { dst := some 82, op := Op.move (Operand.tmp 1), type := 45, pos := _, after := #[], guard := none }) (v := ?_) rfl (by kernel_rfl) (by kernel_rfl) (by kernel_rfl) (fun _ _ _ h => h) (Or.inl ⟨by rfl, ?_⟩) (by assumption) ?_
                rotate_left
                · intro w hSw
                  try dsimp only at hSw
                  go_simp
                  try with_reducible rfl
                try simp only [Act.put, List.setIfInBounds_toArray, List.set_cons_zero, List.set_cons_succ]
                refine wpAnyH_take (i := 5) (oi := { dst := some 83, op := Op.move (Operand.tmp 3), type := 3, pos := _, after := #[], guard := none }) (v := ?_) rfl (by kernel_rfl) (by kernel_rfl) (by kernel_rfl) (fun _ _ _ h => h) (Or.inl ⟨by rfl, ?_⟩) (by assumption) ?_
                rotate_left
                · intro w hSw
                  try dsimp only at hSw
                  go_simp
                  try with_reducible rfl
                try simp only [Act.put, List.setIfInBounds_toArray, List.set_cons_zero, List.set_cons_succ]
                refine wpAnyH_take (i := 6) (oi := { dst := some 84, op := Op.binOp BinOp.mul 3 (Operand.tmp 83) (Operand.const (Value.int IntKind.i64 5)) 3, type := 3, pos := _, after := #[{ on := 5, ground := Ground.data }], guard := none }) (v := ?_) rfl (by kernel_rfl) (by kernel_rfl) (by kernel_rfl) (fun _ _ _ h => h) (Or.inl ⟨by rfl, ?_⟩) (by assumption) ?_
                rotate_left
                · intro w hSw
                  try dsimp only at hSw
                  go_simp
                  try with_reducible rfl
                try simp only [Act.put, List.setIfInBounds_toArray, List.set_cons_zero, List.set_cons_succ]
                refine wpAnyH_take (i := 7) (oi := { dst := some 85, op := Op.binOp BinOp.rem 3 (Operand.tmp 84) (Operand.const (Value.int IntKind.i64 64)) 3, type := 3, pos := _, after := #[{ on := 6, ground := Ground.data }], guard := none }) (v := ?_) rfl (by kernel_rfl) (by kernel_rfl) (by kernel_rfl) (fun _ _ _ h => h) (Or.inl ⟨by rfl, ?_⟩) (by assumption) ?_
                rotate_left
                · intro w hSw
                  try dsimp only at hSw
                  go_simp
                  try with_reducible rfl
                try simp only [Act.put, List.setIfInBounds_toArray, List.set_cons_zero, List.set_cons_succ]
                refine wpAnyH_take (i := 8) (oi := { dst := some 86, op := Op.indexAddr 45 (Operand.tmp 82) (Operand.tmp 85), type := 0, pos := _, after := #[{ on := 4, ground := Ground.data }, { on := 7, ground := Ground.data }], guard := none }) (v := ?_) rfl (by kernel_rfl) (by kernel_rfl) (by kernel_rfl) (fun _ _ _ h => h) (Or.inl ⟨by rfl, ?_⟩) (by assumption) ?_
                rotate_left
                · intro w hSw
                  try dsimp only at hSw
                  go_simp
                  try with_reducible rfl
                try simp only [Act.put, List.setIfInBounds_toArray, List.set_cons_zero, List.set_cons_succ]
                refine wpAnyH_take (i := 9) (oi := { dst := some 87, op := Op.load 22 (Operand.tmp 86), type := 22, pos := _, after := #[{ on := 8, ground := Ground.data }], guard := none }) (v := ?_) rfl (by kernel_rfl) (by kernel_rfl) (by kernel_rfl) (fun _ _ _ h => h) (Or.inl ⟨by rfl, ?_⟩) (by assumption) ?_
                rotate_left
                · intro w hSw
                  try dsimp only at hSw
                  go_simp
                  try with_reducible rfl
                try simp only [Act.put, List.setIfInBounds_toArray, List.set_cons_zero, List.set_cons_succ]
                refine wpAnyH_take (i := 10) (oi := { dst := some 88, op := Op.move (Operand.tmp 1), type := 45, pos := _, after := #[], guard := none }) (v := ?_) rfl (by kernel_rfl) (by kernel_rfl) (by kernel_rfl) (fun _ _ _ h => h) (Or.inl ⟨by rfl, ?_⟩) (by assumption) ?_
                rotate_left
                · intro w hSw
                  try dsimp only at hSw
                  go_simp
                  try with_reducible rfl
                try simp only [Act.put, List.setIfInBounds_toArray, List.set_cons_zero, List.set_cons_succ]
                refine wpAnyH_take (i := 11) (oi := { dst := some 89, op := Op.move (Operand.tmp 3), type := 3, pos := _, after := #[], guard := none }) (v := ?_) rfl (by kernel_rfl) (by kernel_rfl) (by kernel_rfl) (fun _ _ _ h => h) (Or.inl ⟨by rfl, ?_⟩) (by assumption) ?_
                rotate_left
                · intro w hSw
                  try dsimp only at hSw
                  go_simp
                  try with_reducible rfl
                try simp only [Act.put, List.setIfInBounds_toArray, List.set_cons_zero, List.set_cons_succ]
                refine wpAnyH_take (i := 12) (oi := { dst := some 90, op := Op.indexAddr 45 (Operand.tmp 88) (Operand.tmp 89), type := 0, pos := _, after := #[{ on := 10, ground := Ground.data }, { on := 11, ground := Ground.data }], guard := none }) (v := ?_) rfl (by kernel_rfl) (by kernel_rfl) (by kernel_rfl) (fun _ _ _ h => h) (Or.inl ⟨by rfl, ?_⟩) (by assumption) ?_
                rotate_left
                · intro w hSw
                  try dsimp only at hSw
                  go_simp
                  try with_reducible rfl
                try simp only [Act.put, List.setIfInBounds_toArray, List.set_cons_zero, List.set_cons_succ]
                refine wpAnyH_take (i := 13) (oi := { dst := some 91, op := Op.load 22 (Operand.tmp 90), type := 22, pos := _, after := #[{ on := 12, ground := Ground.data }], guard := none }) (v := ?_) rfl (by kernel_rfl) (by kernel_rfl) (by kernel_rfl) (fun _ _ _ h => h) (Or.inl ⟨by rfl, ?_⟩) (by assumption) ?_
                rotate_left
                · intro w hSw
                  try dsimp only at hSw
                  go_simp
                  try with_reducible rfl
                try simp only [Act.put, List.setIfInBounds_toArray, List.set_cons_zero, List.set_cons_succ]
                refine wpAnyH_take (i := 14) (oi := { dst := some 92, op := Op.move (Operand.tmp 3), type := 3, pos := _, after := #[], guard := none }) (v := ?_) rfl (by kernel_rfl) (by kernel_rfl) (by kernel_rfl) (fun _ _ _ h => h) (Or.inl ⟨by rfl, ?_⟩) (by assumption) ?_
                rotate_left
                · intro w hSw
                  try dsimp only at hSw
                  go_simp
                  try with_reducible rfl
                try simp only [Act.put, List.setIfInBounds_toArray, List.set_cons_zero, List.set_cons_succ]
                refine wpAnyH_take (i := 15) (oi := { dst := some 93, op := Op.convert 3 5 (Operand.tmp 92), type := 5, pos := _, after := #[{ on := 14, ground := Ground.data }], guard := none }) (v := ?_) rfl (by kernel_rfl) (by kernel_rfl) (by kernel_rfl) (fun _ _ _ h => h) (Or.inl ⟨by rfl, ?_⟩) (by assumption) ?_
                rotate_left
                · intro w hSw
                  try dsimp only at hSw
                  go_simp
                  try with_reducible rfl
                try simp only [Act.put, List.setIfInBounds_toArray, List.set_cons_zero, List.set_cons_succ]
                refine wpAnyH_ready (rs := [16]) (by kernel_rfl) (by simp) ?_
                refine AllReadyH.cons (o := { dst := some 94, op := Op.call { callee := Callee.value (Operand.func 4), args := #[Operand.tmp 81, Operand.tmp 87, Operand.tmp 91, Operand.tmp 93], argTypes := #[22, 22, 22, 5] }, type := 4, pos := _, after := #[{ on := 3, ground := Ground.data }, { on := 9, ground := Ground.data }, { on := 13, ground := Ground.data }, { on := 15, ground := Ground.data }], guard := none }) rfl (fun K hK => ?_) AllReadyH.nil
                go_simp
                obtain ⟨q1, q5, q7, q3, h1, h2⟩ := hHeld
                refine (through_n _ (some ⟨b1, 0, none⟩) r1 3 3 H1.out.1 (by omega) h1.b1 (some ⟨b5, 0, none⟩) r5 3 3 H1.out.2.1 (by omega) h1.b2 (some ⟨b1, 0, none⟩) r1 3 3 H1.out.1 (by omega) h1.b1 (j : Int) (by omega)).mono ?_
                rintro e w1 ⟨rfl, hb1⟩
                try dsimp only
                refine hK.out _ _ ?_ (fun hHeld => ?_)
                · try dsimp only
                  exact ⟨(hb1.cell (p := ⟨g, j, none⟩) h1.g).trans q1, (hb1.cell (p := ⟨g, j5, none⟩) h1.g).trans q5, (hb1.cell (p := ⟨g, j7, none⟩) h1.g).trans q7, (hb1.cell (p := ⟨g, j3, none⟩) h1.g).trans q3, h1.keep hb1, h2.keep hb1⟩
                clear hK K
                try simp only [Act.put, List.setIfInBounds_toArray, List.set_cons_zero, List.set_cons_succ]
                refine wpAnyH_take (i := 17) (oi := { dst := some 95, op := Op.unOp UnOp.not 4 (Operand.tmp 94), type := 4, pos := _, after := #[{ on := 16, ground := Ground.data }], guard := none }) (v := ?_) rfl (by kernel_rfl) (by kernel_rfl) (by kernel_rfl) (fun _ _ _ h => h) (Or.inl ⟨by rfl, ?_⟩) (by assumption) ?_
                rotate_left
                · intro w hSw
                  try dsimp only at hSw
                  go_simp
                  try with_reducible rfl
                try simp only [Act.put, List.setIfInBounds_toArray, List.set_cons_zero, List.set_cons_succ]
                refine wpAnyH_take (i := 18) (oi := { dst := some 96, op := Op.move (Operand.tmp 95), type := 4, pos := _, after := #[{ on := 17, ground := Ground.data }, { on := 16, ground := Ground.chain }], guard := none }) (v := ?_) rfl (by kernel_rfl) (by kernel_rfl) (by kernel_rfl) (fun _ _ _ h => h) (Or.inl ⟨by rfl, ?_⟩) (by assumption) ?_
                rotate_left
                · intro w hSw
                  try dsimp only at hSw
                  go_simp
                  try with_reducible rfl
                try simp only [Act.put, List.setIfInBounds_toArray, List.set_cons_zero, List.set_cons_succ]
                refine wpAnyH_take (i := 19) (oi := { dst := some 97, op := Op.move (Operand.tmp 1), type := 45, pos := _, after := #[{ on := 18, ground := Ground.guard }], guard := some (18, false) }) (v := ?_) rfl (by kernel_rfl) (by kernel_rfl) (by kernel_rfl) (fun _ _ _ h => h) (Or.inl ⟨by rfl, ?_⟩) (by assumption) ?_
                rotate_left
                · intro w hSw
                  try dsimp only at hSw
                  go_simp
                  try with_reducible rfl
                try simp only [Act.put, List.setIfInBounds_toArray, List.set_cons_zero, List.set_cons_succ]
                refine wpAnyH_take (i := 20) (oi := { dst := some 98, op := Op.move (Operand.tmp 3), type := 3, pos := _, after := #[{ on := 18, ground := Ground.guard }], guard := some (18, false) }) (v := ?_) rfl (by kernel_rfl) (by kernel_rfl) (by kernel_rfl) (fun _ _ _ h => h) (Or.inl ⟨by rfl, ?_⟩) (by assumption) ?_
                rotate_left
                · intro w hSw
                  try dsimp only at hSw
                  go_simp
                  try with_reducible rfl
                try simp only [Act.put, List.setIfInBounds_toArray, List.set_cons_zero, List.set_cons_succ]
                refine wpAnyH_take (i := 21) (oi := { dst := some 99, op := Op.indexAddr 45 (Operand.tmp 97) (Operand.tmp 98), type := 0, pos := _, after := #[{ on := 19, ground := Ground.data }, { on := 20, ground := Ground.data }, { on := 18, ground := Ground.guard }], guard := some (18, false) }) (v := ?_) rfl (by kernel_rfl) (by kernel_rfl) (by kernel_rfl) (fun _ _ _ h => h) (Or.inl ⟨by rfl, ?_⟩) (by assumption) ?_
                rotate_left
                · intro w hSw
                  try dsimp only at hSw
                  go_simp
                  try with_reducible rfl
                try simp only [Act.put, List.setIfInBounds_toArray, List.set_cons_zero, List.set_cons_succ]
                refine wpAnyH_take (i := 22) (oi := { dst := some 100, op := Op.load 22 (Operand.tmp 99), type := 22, pos := _, after := #[{ on := 21, ground := Ground.data }, { on := 18, ground := Ground.guard }], guard := some (18, false) }) (v := ?_) rfl (by kernel_rfl) (by kernel_rfl) (by kernel_rfl) (fun _ _ _ h => h) (Or.inl ⟨by rfl, ?_⟩) (by assumption) ?_
                rotate_left
                · intro w hSw
                  try dsimp only at hSw
                  go_simp
                  try with_reducible rfl
                try simp only [Act.put, List.setIfInBounds_toArray, List.set_cons_zero, List.set_cons_succ]
                refine wpAnyH_take (i := 23) (oi := { dst := some 101, op := Op.move (Operand.tmp 3), type := 3, pos := _, after := #[{ on := 18, ground := Ground.guard }], guard := some (18, false) }) (v := ?_) rfl (by kernel_rfl) (by kernel_rfl) (by kernel_rfl) (fun _ _ _ h => h) (Or.inl ⟨by rfl, ?_⟩) (by assumption) ?_
                rotate_left
                · intro w hSw
                  try dsimp only at hSw
                  go_simp
                  try with_reducible rfl
                try simp only [Act.put, List.setIfInBounds_toArray, List.set_cons_zero, List.set_cons_succ]
                refine wpAnyH_take (i := 24) (oi := { dst := some 102, op := Op.convert 3 5 (Operand.tmp 101), type := 5, pos := _, after := #[{ on := 23, ground := Ground.data }, { on := 18, ground := Ground.guard }], guard := some (18, false) }) (v := ?_) rfl (by kernel_rfl) (by kernel_rfl) (by kernel_rfl) (fun _ _ _ h => h) (Or.inl ⟨by rfl, ?_⟩) (by assumption) ?_
                rotate_left
                · intro w hSw
                  try dsimp only at hSw
                  go_simp
                  try with_reducible rfl
                try simp only [Act.put, List.setIfInBounds_toArray, List.set_cons_zero, List.set_cons_succ]
                refine wpAnyH_take (i := 26) (oi := { dst := some 104, op := Op.move (Operand.tmp 1), type := 45, pos := _, after := #[{ on := 18, ground := Ground.guard }], guard := some (18, false) }) (v := ?_) rfl (by kernel_rfl) (by kernel_rfl) (by kernel_rfl) (fun _ _ _ h => h) (Or.inl ⟨by rfl, ?_⟩) (by assumption) ?_
                rotate_left
                · intro w hSw
                  try dsimp only at hSw
                  go_simp
                  try with_reducible rfl
                try simp only [Act.put, List.setIfInBounds_toArray, List.set_cons_zero, List.set_cons_succ]
                refine wpAnyH_take (i := 27) (oi := { dst := some 105, op := Op.move (Operand.tmp 3), type := 3, pos := _, after := #[{ on := 18, ground := Ground.guard }], guard := some (18, false) }) (v := ?_) rfl (by kernel_rfl) (by kernel_rfl) (by kernel_rfl) (fun _ _ _ h => h) (Or.inl ⟨by rfl, ?_⟩) (by assumption) ?_
                rotate_left
                · intro w hSw
                  try dsimp only at hSw
                  go_simp
                  try with_reducible rfl
                try simp only [Act.put, List.setIfInBounds_toArray, List.set_cons_zero, List.set_cons_succ]
                refine wpAnyH_take (i := 28) (oi := { dst := some 106, op := Op.binOp BinOp.mul 3 (Operand.tmp 105) (Operand.const (Value.int IntKind.i64 7)) 3, type := 3, pos := _, after := #[{ on := 27, ground := Ground.data }, { on := 18, ground := Ground.guard }], guard := some (18, false) }) (v := ?_) rfl (by kernel_rfl) (by kernel_rfl) (by kernel_rfl) (fun _ _ _ h => h) (Or.inl ⟨by rfl, ?_⟩) (by assumption) ?_
                rotate_left
                · intro w hSw
                  try dsimp only at hSw
                  go_simp
                  try with_reducible rfl
                try simp only [Act.put, List.setIfInBounds_toArray, List.set_cons_zero, List.set_cons_succ]
                refine wpAnyH_take (i := 29) (oi := { dst := some 107, op := Op.binOp BinOp.rem 3 (Operand.tmp 106) (Operand.const (Value.int IntKind.i64 64)) 3, type := 3, pos := _, after := #[{ on := 28, ground := Ground.data }, { on := 18, ground := Ground.guard }], guard := some (18, false) }) (v := ?_) rfl (by kernel_rfl) (by kernel_rfl) (by kernel_rfl) (fun _ _ _ h => h) (Or.inl ⟨by rfl, ?_⟩) (by assumption) ?_
                rotate_left
                · intro w hSw
                  try dsimp only at hSw
                  go_simp
                  try with_reducible rfl
                try simp only [Act.put, List.setIfInBounds_toArray, List.set_cons_zero, List.set_cons_succ]
                refine wpAnyH_take (i := 30) (oi := { dst := some 108, op := Op.indexAddr 45 (Operand.tmp 104) (Operand.tmp 107), type := 0, pos := _, after := #[{ on := 26, ground := Ground.data }, { on := 29, ground := Ground.data }, { on := 18, ground := Ground.guard }], guard := some (18, false) }) (v := ?_) rfl (by kernel_rfl) (by kernel_rfl) (by kernel_rfl) (fun _ _ _ h => h) (Or.inl ⟨by rfl, ?_⟩) (by assumption) ?_
                rotate_left
                · intro w hSw
                  try dsimp only at hSw
                  go_simp
                  try with_reducible rfl
                try simp only [Act.put, List.setIfInBounds_toArray, List.set_cons_zero, List.set_cons_succ]
                refine wpAnyH_take (i := 31) (oi := { dst := some 109, op := Op.load 22 (Operand.tmp 108), type := 22, pos := _, after := #[{ on := 30, ground := Ground.data }, { on := 18, ground := Ground.guard }], guard := some (18, false) }) (v := ?_) rfl (by kernel_rfl) (by kernel_rfl) (by kernel_rfl) (fun _ _ _ h => h) (Or.inl ⟨by rfl, ?_⟩) (by assumption) ?_
                rotate_left
                · intro w hSw
                  try dsimp only at hSw
                  go_simp
                  try with_reducible rfl
                try simp only [Act.put, List.setIfInBounds_toArray, List.set_cons_zero, List.set_cons_succ]
                refine wpAnyH_ready (rs := [25]) (by kernel_rfl) (by simp) ?_
                refine AllReadyH.cons (o := { dst := some 103, op := Op.buildSlice 22 3 #[(0, Operand.const (Value.int IntKind.u8 1)), (1, Operand.const (Value.int IntKind.u8 2)), (2, Operand.tmp 102)], type := 22, pos := _, after := #[{ on := 24, ground := Ground.data }, { on := 18, ground := Ground.guard }], guard := some (18, false) }) rfl (fun K hK => ?_) AllReadyH.nil
                have hbd := build3 w1 1 2 (j : Int)
                go_simp
                obtain ⟨q1, q5, q7, q3, h1, h2⟩ := hHeld
                try dsimp only
                refine hK.out _ _ ?_ (fun hHeld => ?_)
                · try dsimp only
                  have hb1 := nextA (Mem.start w1) (.cells #[.int .u8 1, .int .u8 2, .int .u8 (j : Int)] 5)
                  exact ⟨(hb1.cell (p := ⟨g, j, none⟩) h1.g).trans q1, (hb1.cell (p := ⟨g, j5, none⟩) h1.g).trans q5, (hb1.cell (p := ⟨g, j7, none⟩) h1.g).trans q7, (hb1.cell (p := ⟨g, j3, none⟩) h1.g).trans q3, h1.keep hb1, h2.keep hb1⟩
                clear hK K
                try simp only [Act.put, List.setIfInBounds_toArray, List.set_cons_zero, List.set_cons_succ]
                refine wpAnyH_ready (rs := [32]) (by kernel_rfl) (by simp) ?_
                refine AllReadyH.cons (o := { dst := some 110, op := Op.call { callee := Callee.value (Operand.func 7), args := #[Operand.tmp 100, Operand.tmp 103, Operand.tmp 109], argTypes := #[22, 22, 22] }, type := 4, pos := _, after := #[{ on := 22, ground := Ground.data }, { on := 25, ground := Ground.data }, { on := 31, ground := Ground.data }, { on := 18, ground := Ground.chain }, { on := 18, ground := Ground.guard }], guard := some (18, false) }) rfl (fun K hK => ?_) AllReadyH.nil
                go_simp
                obtain ⟨q1, q5, q7, q3, h1, h2⟩ := hHeld
                refine (only_n _ (some ⟨b1, 0, none⟩) r1 3 3 H1.out.1 (by omega) h1.b1 (some ⟨w1.heap.size, 0, none⟩) [1, 2, xj] 3 3 rfl (by omega) (Bytes.new w1 [1, 2, xj] 5 (0, 0) _ (by simp [u8v, HXJ.out]) _ (by simp)) (some ⟨b7, 0, none⟩) r7 3 3 H1.out.2.2.1 (by omega) h2.b1).mono ?_
                rintro e w1 ⟨rfl, hb1⟩
                try dsimp only
                refine hK.out _ _ ?_ (fun hHeld => ?_)
                · try dsimp only
                  exact ⟨(hb1.cell (p := ⟨g, j, none⟩) h1.g).trans q1, (hb1.cell (p := ⟨g, j5, none⟩) h1.g).trans q5, (hb1.cell (p := ⟨g, j7, none⟩) h1.g).trans q7, (hb1.cell (p := ⟨g, j3, none⟩) h1.g).trans q3, h1.keep hb1, h2.keep hb1⟩
                clear hK K
                try simp only [Act.put, List.setIfInBounds_toArray, List.set_cons_zero, List.set_cons_succ]
                refine wpAnyH_take (i := 33) (oi := { dst := some 111, op := Op.unOp UnOp.not 4 (Operand.tmp 110), type := 4, pos := _, after := #[{ on := 32, ground := Ground.data }, { on := 18, ground := Ground.guard }], guard := some (18, false) }) (v := ?_) rfl (by kernel_rfl) (by kernel_rfl) (by kernel_rfl) (fun _ _ _ h => h) (Or.inl ⟨by rfl, ?_⟩) (by assumption) ?_
                rotate_left
                · intro w hSw
                  try dsimp only at hSw
                  go_simp
                  try with_reducible rfl
                try simp only [Act.put, List.setIfInBounds_toArray, List.set_cons_zero, List.set_cons_succ]
                refine wpAnyH_take (i := 34) (oi := { dst := some 112, op := Op.pick (Operand.tmp 96) (Operand.const (Value.bool true)) (Operand.tmp 111), type := 4, pos := _, after := #[{ on := 18, ground := Ground.data }, { on := 33, ground := Ground.data }], guard := none }) (v := ?_) rfl (by kernel_rfl) (by kernel_rfl) (by kernel_rfl) (fun _ _ _ h => h) (Or.inl ⟨by rfl, ?_⟩) (by assumption) ?_
                rotate_left
                · intro w hSw
                  try dsimp only at hSw
                  go_simp
                  try with_reducible rfl
                try simp only [Act.put, List.setIfInBounds_toArray, List.set_cons_zero, List.set_cons_succ]
                refine wpAnyH_take (i := 35) (oi := { dst := some 113, op := Op.move (Operand.tmp 112), type := 4, pos := _, after := #[{ on := 34, ground := Ground.data }, { on := 32, ground := Ground.chain }], guard := none }) (v := ?_) rfl (by kernel_rfl) (by kernel_rfl) (by kernel_rfl) (fun _ _ _ h => h) (Or.inl ⟨by rfl, ?_⟩) (by assumption) ?_
                rotate_left
                · intro w hSw
                  try dsimp only at hSw
                  go_simp
                  try with_reducible rfl
                try simp only [Act.put, List.setIfInBounds_toArray, List.set_cons_zero, List.set_cons_succ]
                refine wpAnyH_take (i := 36) (oi := { dst := some 114, op := Op.move (Operand.tmp 1), type := 45, pos := _, after := #[{ on := 35, ground := Ground.guard }], guard := some (35, false) }) (v := ?_) rfl (by kernel_rfl) (by kernel_rfl) (by kernel_rfl) (fun _ _ _ h => h) (Or.inl ⟨by rfl, ?_⟩) (by assumption) ?_
                rotate_left
                · intro w hSw
                  try dsimp only at hSw
                  go_simp
                  try with_reducible rfl
                try simp only [Act.put, List.setIfInBounds_toArray, List.set_cons_zero, List.set_cons_succ]
                refine wpAnyH_take (i := 37) (oi := { dst := some 115, op := Op.move (Operand.tmp 3), type := 3, pos := _, after := #[{ on := 35, ground := Ground.guard }], guard := some (35, false) }) (v := ?_) rfl (by kernel_rfl) (by kernel_rfl) (by kernel_rfl) (fun _ _ _ h => h) (Or.inl ⟨by rfl, ?_⟩) (by assumption) ?_
                rotate_left
                · intro w hSw
                  try dsimp only at hSw
                  go_simp
                  try with_reducible rfl
                try simp only [Act.put, List.setIfInBounds_toArray, List.set_cons_zero, List.set_cons_succ]
                refine wpAnyH_take (i := 38) (oi := { dst := some 116, op := Op.indexAddr 45 (Operand.tmp 114) (Operand.tmp 115), type := 0, pos := _, after := #[{ on := 36, ground := Ground.data }, { on := 37, ground := Ground.data }, { on := 35, ground := Ground.guard }], guard := some (35, false) }) (v := ?_) rfl (by kernel_rfl) (by kernel_rfl) (by kernel_rfl) (fun _ _ _ h => h) (Or.inl ⟨by rfl, ?_⟩) (by assumption) ?_
                rotate_left
                · intro w hSw
                  try dsimp only at hSw
                  go_simp
                  try with_reducible rfl
                try simp only [Act.put, List.setIfInBounds_toArray, List.set_cons_zero, List.set_cons_succ]
                refine wpAnyH_take (i := 39) (oi := { dst := some 117, op := Op.load 22 (Operand.tmp 116), type := 22, pos := _, after := #[{ on := 38, ground := Ground.data }, { on := 35, ground := Ground.guard }], guard := some (35, false) }) (v := ?_) rfl (by kernel_rfl) (by kernel_rfl) (by kernel_rfl) (fun _ _ _ h => h) (Or.inl ⟨by rfl, ?_⟩) (by assumption) ?_
                rotate_left
                · intro w hSw
                  try dsimp only at hSw
                  go_simp
                  try with_reducible rfl
                try simp only [Act.put, List.setIfInBounds_toArray, List.set_cons_zero, List.set_cons_succ]
                refine wpAnyH_take (i := 41) (oi := { dst := some 119, op := Op.move (Operand.tmp 1), type := 45, pos := _, after := #[{ on := 35, ground := Ground.guard }], guard := some (35, false) }) (v := ?_) rfl (by kernel_rfl) (by kernel_rfl) (by kernel_rfl) (fun _ _ _ h => h) (Or.inl ⟨by rfl, ?_⟩) (by assumption) ?_
                rotate_left
                · intro w hSw
                  try dsimp only at hSw
                  go_simp
                  try with_reducible rfl
                try simp only [Act.put, List.setIfInBounds_toArray, List.set_cons_zero, List.set_cons_succ]
                refine wpAnyH_take (i := 42) (oi := { dst := some 120, op := Op.move (Operand.tmp 3), type := 3, pos := _, after := #[{ on := 35, ground := Ground.guard }], guard := some (35, false) }) (v := ?_) rfl (by kernel_rfl) (by kernel_rfl) (by kernel_rfl) (fun _ _ _ h => h) (Or.inl ⟨by rfl, ?_⟩) (by assumption) ?_
                rotate_left
                · intro w hSw
                  try dsimp only at hSw
                  go_simp
                  try with_reducible rfl
                try simp only [Act.put, List.setIfInBounds_toArray, List.set_cons_zero, List.set_cons_succ]
                refine wpAnyH_take (i := 43) (oi := { dst := some 121, op := Op.indexAddr 45 (Operand.tmp 119) (Operand.tmp 120), type := 0, pos := _, after := #[{ on := 41, ground := Ground.data }, { on := 42, ground := Ground.data }, { on := 35, ground := Ground.guard }], guard := some (35, false) }) (v := ?_) rfl (by kernel_rfl) (by kernel_rfl) (by kernel_rfl) (fun _ _ _ h => h) (Or.inl ⟨by rfl, ?_⟩) (by assumption) ?_
                rotate_left
                · intro w hSw
                  try dsimp only at hSw
                  go_simp
                  try with_reducible rfl
                try simp only [Act.put, List.setIfInBounds_toArray, List.set_cons_zero, List.set_cons_succ]
                refine wpAnyH_take (i := 44) (oi := { dst := some 122, op := Op.load 22 (Operand.tmp 121), type := 22, pos := _, after := #[{ on := 43, ground := Ground.data }, { on := 35, ground := Ground.guard }], guard := some (35, false) }) (v := ?_) rfl (by kernel_rfl) (by kernel_rfl) (by kernel_rfl) (fun _ _ _ h => h) (Or.inl ⟨by rfl, ?_⟩) (by assumption) ?_
                rotate_left
                · intro w hSw
                  try dsimp only at hSw
                  go_simp
                  try with_reducible rfl
                try simp only [Act.put, List.setIfInBounds_toArray, List.set_cons_zero, List.set_cons_succ]
                refine wpAnyH_take (i := 45) (oi := { dst := some 123, op := Op.slice 22 (Operand.tmp 122) none (some (Operand.const (Value.int IntKind.i64 2))) none, type := 22, pos := _, after := #[{ on := 44, ground := Ground.data }, { on := 35, ground := Ground.guard }], guard := some (35, false) }) (v := ?_) rfl (by kernel_rfl) (by kernel_rfl) (by kernel_rfl) (fun _ _ _ h => h) (Or.inl ⟨by rfl, ?_⟩) (by assumption) ?_
                rotate_left
                · intro w hSw
                  try dsimp only at hSw
                  go_simp
                  try with_reducible rfl
                try simp only [Act.put, List.setIfInBounds_toArray, List.set_cons_zero, List.set_cons_succ]
                refine wpAnyH_ready (rs := [40]) (by kernel_rfl) (by simp) ?_
                refine AllReadyH.cons (o := { dst := some 118, op := Op.buildSlice 22 2 #[(0, Operand.const (Value.int IntKind.u8 9)), (1, Operand.const (Value.int IntKind.u8 200))], type := 22, pos := _, after := #[{ on := 35, ground := Ground.guard }], guard := some (35, false) }) rfl (fun K hK => ?_) AllReadyH.nil
                have hbd := build2 w1 9 200
                go_simp
                obtain ⟨q1, q5, q7, q3, h1, h2⟩ := hHeld
                try dsimp only
                refine hK.out _ _ ?_ (fun hHeld => ?_)
                · try dsimp only
                  have hb1 := nextA (Mem.start w1) (.cells #[.int .u8 9, .int .u8 200] 5)
                  exact ⟨(hb1.cell (p := ⟨g, j, none⟩) h1.g).trans q1, (hb1.cell (p := ⟨g, j5, none⟩) h1.g).trans q5, (hb1.cell (p := ⟨g, j7, none⟩) h1.g).trans q7, (hb1.cell (p := ⟨g, j3, none⟩) h1.g).trans q3, h1.keep hb1, h2.keep hb1⟩
                clear hK K
                try simp only [Act.put, List.setIfInBounds_toArray, List.set_cons_zero, List.set_cons_succ]
                refine wpAnyH_ready (rs := [46]) (by kernel_rfl) (by simp) ?_
                refine AllReadyH.cons (o := { dst := some 124, op := Op.call { callee := Callee.value (Operand.func 7), args := #[Operand.tmp 117, Operand.tmp 118, Operand.tmp 123], argTypes := #[22, 22, 22] }, type := 4, pos := _, after := #[{ on := 39, ground := Ground.data }, { on := 40, ground := Ground.data }, { on := 45, ground := Ground.data }, { on := 35, ground := Ground.chain }, { on := 35, ground := Ground.guard }], guard := some (35, false) }) rfl (fun K hK => ?_) AllReadyH.nil
                go_simp
                obtain ⟨q1, q5, q7, q3, h1, h2⟩ := hHeld
                refine (only_n _ (some ⟨b1, 0, none⟩) r1 3 3 H1.out.1 (by omega) h1.b1 (some ⟨w1.heap.size, 0, none⟩) [9, 200] 2 2 rfl (by omega) (Bytes.new w1 [9, 200] 5 (0, 0) _ (by simp [u8v]) _ (by simp)) (some ⟨b1, 0, none⟩) (r1.take 2) 2 3 (by rw [List.length_take, H1.out.1]; rfl) (by omega) (h1.b1.take 2)).mono ?_
                rintro e w1 ⟨rfl, hb1⟩
                try dsimp only
                refine hK.out _ _ ?_ (fun hHeld => ?_)
                · try dsimp only
                  exact ⟨(hb1.cell (p := ⟨g, j, none⟩) h1.g).trans q1, (hb1.cell (p := ⟨g, j5, none⟩) h1.g).trans q5, (hb1.cell (p := ⟨g, j7, none⟩) h1.g).trans q7, (hb1.cell (p := ⟨g, j3, none⟩) h1.g).trans q3, h1.keep hb1, h2.keep hb1⟩
                clear hK K
                try simp only [Act.put, List.setIfInBounds_toArray, List.set_cons_zero, List.set_cons_succ]
                refine wpAnyH_take (i := 47) (oi := { dst := some 125, op := Op.unOp UnOp.not 4 (Operand.tmp 124), type := 4, pos := _, after := #[{ on := 46, ground := Ground.data }, { on := 35, ground := Ground.guard }], guard := some (35, false) }) (v := ?_) rfl (by kernel_rfl) (by kernel_rfl) (by kernel_rfl) (fun _ _ _ h => h) (Or.inl ⟨by rfl, ?_⟩) (by assumption) ?_
                rotate_left
                · intro w hSw
                  try dsimp only at hSw
                  go_simp
                  try with_reducible rfl
                try simp only [Act.put, List.setIfInBounds_toArray, List.set_cons_zero, List.set_cons_succ]
                refine wpAnyH_take (i := 48) (oi := { dst := some 126, op := Op.pick (Operand.tmp 113) (Operand.const (Value.bool true)) (Operand.tmp 125), type := 4, pos := _, after := #[{ on := 35, ground := Ground.data }, { on := 47, ground := Ground.data }], guard := none }) (v := ?_) rfl (by kernel_rfl) (by kernel_rfl) (by kernel_rfl) (fun _ _ _ h => h) (Or.inl ⟨by rfl, ?_⟩) (by assumption) ?_
                rotate_left
                · intro w hSw
                  try dsimp only at hSw
                  go_simp
                  try with_reducible rfl
                try simp only [Act.put, List.setIfInBounds_toArray, List.set_cons_zero, List.set_cons_succ]
                refine wpAnyH_take (i := 49) (oi := { dst := some 127, op := Op.move (Operand.tmp 126), type := 4, pos := _, after := #[{ on := 48, ground := Ground.data }, { on := 46, ground := Ground.chain }], guard := none }) (v := ?_) rfl (by kernel_rfl) (by kernel_rfl) (by kernel_rfl) (fun _ _ _ h => h) (Or.inl ⟨by rfl, ?_⟩) (by assumption) ?_
                rotate_left
                · intro w hSw
                  try dsimp only at hSw
                  go_simp
                  try with_reducible rfl
                try simp only [Act.put, List.setIfInBounds_toArray, List.set_cons_zero, List.set_cons_succ]
                refine wpAnyH_take (i := 50) (oi := { dst := some 128, op := Op.move (Operand.tmp 3), type := 3, pos := _, after := #[{ on := 49, ground := Ground.guard }], guard := some (49, false) }) (v := ?_) rfl (by kernel_rfl) (by kernel_rfl) (by kernel_rfl) (fun _ _ _ h => h) (Or.inl ⟨by rfl, ?_⟩) (by assumption) ?_
                rotate_left
                · intro w hSw
                  try dsimp only at hSw
                  go_simp
                  try with_reducible rfl
                try simp only [Act.put, List.setIfInBounds_toArray, List.set_cons_zero, List.set_cons_succ]
                refine wpAnyH_take (i := 51) (oi := { dst := some 129, op := Op.binOp BinOp.rem 3 (Operand.tmp 128) (Operand.const (Value.int IntKind.i64 8)) 3, type := 3, pos := _, after := #[{ on := 50, ground := Ground.data }, { on := 49, ground := Ground.guard }], guard := some (49, false) }) (v := ?_) rfl (by kernel_rfl) (by kernel_rfl) (by kernel_rfl) (fun _ _ _ h => h) (Or.inl ⟨by rfl, ?_⟩) (by assumption) ?_
                rotate_left
                · intro w hSw
                  try dsimp only at hSw
                  go_simp
                  try with_reducible rfl
                try simp only [Act.put, List.setIfInBounds_toArray, List.set_cons_zero, List.set_cons_succ]
                refine wpAnyH_take (i := 52) (oi := { dst := some 130, op := Op.binOp BinOp.eql 3 (Operand.tmp 129) (Operand.const (Value.int IntKind.i64 0)) 3, type := 4, pos := _, after := #[{ on := 51, ground := Ground.data }, { on := 49, ground := Ground.guard }], guard := some (49, false) }) (v := ?_) rfl (by kernel_rfl) (by kernel_rfl) (by kernel_rfl) (fun _ _ _ h => h) (Or.inl ⟨by rfl, ?_⟩) (by assumption) ?_
                rotate_left
                · intro w hSw
                  try dsimp only at hSw
                  go_simp
                  try with_reducible rfl
                try simp only [Act.put, List.setIfInBounds_toArray, List.set_cons_zero, List.set_cons_succ]
                refine wpAnyH_take (i := 53) (oi := { dst := some 131, op := Op.move (Operand.tmp 130), type := 4, pos := _, after := #[{ on := 52, ground := Ground.data }, { on := 49, ground := Ground.chain }, { on := 49, ground := Ground.guard }], guard := some (49, false) }) (v := ?_) rfl (by kernel_rfl) (by kernel_rfl) (by kernel_rfl) (fun _ _ _ h => h) (Or.inl ⟨by rfl, ?_⟩) (by assumption) ?_
                rotate_left
                · intro w hSw
                  try dsimp only at hSw
                  go_simp
                  try with_reducible rfl
                try simp only [Act.put, List.setIfInBounds_toArray, List.set_cons_zero, List.set_cons_succ]
                refine wpAnyH_take (i := 54) (oi := { dst := some 132, op := Op.move (Operand.tmp 1), type := 45, pos := _, after := #[{ on := 53, ground := Ground.guard }], guard := some (53, true) }) (v := undef) rfl (by kernel_rfl) (by kernel_rfl) (by kernel_rfl) (fun _ _ _ h => h) (Or.inr ⟨by rfl, rfl⟩) (by assumption) ?_
                try simp only [Act.put, List.setIfInBounds_toArray, List.set_cons_zero, List.set_cons_succ]
                refine wpAnyH_take (i := 55) (oi := { dst := some 133, op := Op.move (Operand.tmp 3), type := 3, pos := _, after := #[{ on := 53, ground := Ground.guard }], guard := some (53, true) }) (v := undef) rfl (by kernel_rfl) (by kernel_rfl) (by kernel_rfl) (fun _ _ _ h => h) (Or.inr ⟨by rfl, rfl⟩) (by assumption) ?_
                try simp only [Act.put, List.setIfInBounds_toArray, List.set_cons_zero, List.set_cons_succ]
                refine wpAnyH_take (i := 56) (oi := { dst := some 134, op := Op.indexAddr 45 (Operand.tmp 132) (Operand.tmp 133), type := 0, pos := _, after := #[{ on := 54, ground := Ground.data }, { on := 55, ground := Ground.data }, { on := 53, ground := Ground.guard }], guard := some (53, true) }) (v := undef) rfl (by kernel_rfl) (by kernel_rfl) (by kernel_rfl) (fun _ _ _ h => h) (Or.inr ⟨by rfl, rfl⟩) (by assumption) ?_
                try simp only [Act.put, List.setIfInBounds_toArray, List.set_cons_zero, List.set_cons_succ]
                refine wpAnyH_take (i := 57) (oi := { dst := some 135, op := Op.load 22 (Operand.tmp 134), type := 22, pos := _, after := #[{ on := 56, ground := Ground.data }, { on := 53, ground := Ground.guard }], guard := some (53, true) }) (v := undef) rfl (by kernel_rfl) (by kernel_rfl) (by kernel_rfl) (fun _ _ _ h => h) (Or.inr ⟨by rfl, rfl⟩) (by assumption) ?_
                try simp only [Act.put, List.setIfInBounds_toArray, List.set_cons_zero, List.set_cons_succ]
                refine wpAnyH_take (i := 58) (oi := { dst := some 136, op := Op.move (Operand.tmp 1), type := 45, pos := _, after := #[{ on := 53, ground := Ground.guard }], guard := some (53, true) }) (v := undef) rfl (by kernel_rfl) (by kernel_rfl) (by kernel_rfl) (fun _ _ _ h => h) (Or.inr ⟨by rfl, rfl⟩) (by assumption) ?_
                try simp only [Act.put, List.setIfInBounds_toArray, List.set_cons_zero, List.set_cons_succ]
                refine wpAnyH_take (i := 59) (oi := { dst := some 137, op := Op.move (Operand.tmp 3), type := 3, pos := _, after := #[{ on := 53, ground := Ground.guard }], guard := some (53, true) }) (v := undef) rfl (by kernel_rfl) (by kernel_rfl) (by kernel_rfl) (fun _ _ _ h => h) (Or.inr ⟨by rfl, rfl⟩) (by assumption) ?_
                try simp only [Act.put, List.setIfInBounds_toArray, List.set_cons_zero, List.set_cons_succ]
                refine wpAnyH_take (i := 60) (oi := { dst := some 138, op := Op.binOp BinOp.mul 3 (Operand.tmp 137) (Operand.const (Value.int IntKind.i64 3)) 3, type := 3, pos := _, after := #[{ on := 59, ground := Ground.data }, { on := 53, ground := Ground.guard }], guard := some (53, true) }) (v := undef) rfl (by kernel_rfl) (by kernel_rfl) (by kernel_rfl) (fun _ _ _ h => h) (Or.inr ⟨by rfl, rfl⟩) (by assumption) ?_
                try simp only [Act.put, List.setIfInBounds_toArray, List.set_cons_zero, List.set_cons_succ]
                refine wpAnyH_take (i := 61) (oi := { dst := some 139, op := Op.binOp BinOp.rem 3 (Operand.tmp 138) (Operand.const (Value.int IntKind.i64 64)) 3, type := 3, pos := _, after := #[{ on := 60, ground := Ground.data }, { on := 53, ground := Ground.guard }], guard := some (53, true) }) (v := undef) rfl (by kernel_rfl) (by kernel_rfl) (by kernel_rfl) (fun _ _ _ h => h) (Or.inr ⟨by rfl, rfl⟩) (by assumption) ?_
                try simp only [Act.put, List.setIfInBounds_toArray, List.set_cons_zero, List.set_cons_succ]
                refine wpAnyH_take (i := 62) (oi := { dst := some 140, op := Op.indexAddr 45 (Operand.tmp 136) (Operand.tmp 139), type := 0, pos := _, after := #[{ on := 58, ground := Ground.data }, { on := 61, ground := Ground.data }, { on := 53, ground := Ground.guard }], guard := some (53, true) }) (v := undef) rfl (by kernel_rfl) (by kernel_rfl) (by kernel_rfl) (fun _ _ _ h => h) (Or.inr ⟨by rfl, rfl⟩) (by assumption) ?_
                try simp only [Act.put, List.setIfInBounds_toArray, List.set_cons_zero, List.set_cons_succ]
                refine wpAnyH_take (i := 63) (oi := { dst := some 141, op := Op.load 22 (Operand.tmp 140), type := 22, pos := _, after := #[{ on := 62, ground := Ground.data }, { on := 53, ground := Ground.guard }], guard := some (53, true) }) (v := undef) rfl (by kernel_rfl) (by kernel_rfl) (by kernel_rfl) (fun _ _ _ h => h) (Or.inr ⟨by rfl, rfl⟩) (by assumption) ?_
                try simp only [Act.put, List.setIfInBounds_toArray, List.set_cons_zero, List.set_cons_succ]
                refine wpAnyH_take (i := 64) (oi := { dst := some 142, op := Op.call { callee := Callee.value (Operand.func 8), args := #[Operand.tmp 135, Operand.tmp 141], argTypes := #[22, 22] }, type := 4, pos := _, after := #[{ on := 57, ground := Ground.data }, { on := 63, ground := Ground.data }, { on := 53, ground := Ground.chain }, { on := 53, ground := Ground.guard }], guard := some (53, true) }) (v := undef) rfl (by kernel_rfl) (by kernel_rfl) (by kernel_rfl) (fun _ _ _ h => h) (Or.inr ⟨by rfl, rfl⟩) (by assumption) ?_
                try simp only [Act.put, List.setIfInBounds_toArray, List.set_cons_zero, List.set_cons_succ]
                refine wpAnyH_take (i := 65) (oi := { dst := some 143, op := Op.unOp UnOp.not 4 (Operand.tmp 142), type := 4, pos := _, after := #[{ on := 64, ground := Ground.data }, { on := 53, ground := Ground.guard }], guard := some (53, true) }) (v := undef) rfl (by kernel_rfl) (by kernel_rfl) (by kernel_rfl) (fun _ _ _ h => h) (Or.inr ⟨by rfl, rfl⟩) (by assumption) ?_
                try simp only [Act.put, List.setIfInBounds_toArray, List.set_cons_zero, List.set_cons_succ]
                refine wpAnyH_take (i := 66) (oi := { dst := some 144, op := Op.pick (Operand.tmp 131) (Operand.tmp 143) (Operand.const (Value.bool false)), type := 4, pos := _, after := #[{ on := 53, ground := Ground.data }, { on := 65, ground := Ground.data }, { on := 49, ground := Ground.guard }], guard := some (49, false) }) (v := ?_) rfl (by kernel_rfl) (by kernel_rfl) (by kernel_rfl) (fun _ _ _ h => h) (Or.inl ⟨by rfl, ?_⟩) (by assumption) ?_
                rotate_left
                · intro w hSw
                  try dsimp only at hSw
                  go_simp
                  try with_reducible rfl
                try simp only [Act.put, List.setIfInBounds_toArray, List.set_cons_zero, List.set_cons_succ]
                refine wpAnyH_take (i := 67) (oi := { dst := some 145, op := Op.pick (Operand.tmp 127) (Operand.const (Value.bool true)) (Operand.tmp 144), type := 4, pos := _, after := #[{ on := 49, ground := Ground.data }, { on := 66, ground := Ground.data }], guard := none }) (v := ?_) rfl (by kernel_rfl) (by kernel_rfl) (by kernel_rfl) (fun _ _ _ h => h) (Or.inl ⟨by rfl, ?_⟩) (by assumption) ?_
                rotate_left
                · intro w hSw
                  try dsimp only at hSw
                  go_simp
                  try with_reducible rfl
                try simp only [Act.put, List.setIfInBounds_toArray, List.set_cons_zero, List.set_cons_succ]
                refine wpAnyH_done (by kernel_rfl) ?_ _
                refine NoPanic.normal ?_
                go_wp2_with fail
                go_roundw
                case rel => exact ⟨j + 1, by simp, by omega, hHeld.2.2.2.2.1.below, hHeld.2.2.2.2.1.tab, hHeld.2.2.2.2.1.g⟩
                case measure => simp [intOf]; omega
              --END14
        · obtain rfl : j = 64 := by omega
          clear hj8 hj
          go_wp2_with fail
          refine (two_n _ none [] 0 0 rfl (by omega) Bytes.nil none [] 0 0 rfl (by omega) Bytes.nil).mono ?_
          rintro e w1 ⟨rfl, hb⟩
          have H1 := Lib.hid (next HR.out.1 hb)
          clear hb
          go_wp2_with fail
          refine (through_n _ none [] 0 0 rfl (by omega) Bytes.nil none [] 0 0 rfl (by omega) Bytes.nil none [] 0 0 rfl (by omega) Bytes.nil 0 (by omega)).mono ?_
          rintro e w2 ⟨rfl, hb⟩
          have H2 := Lib.hid (next H1.out hb)
          have hbd := build1 w2 1
          clear hb
          go_wp2_with fail
          refine (through_n _ (some ⟨w2.heap.size, 0, none⟩) [1] 1 1 rfl (by omega) (Bytes.new w2 [1] 5 (0, 0) _ (by simp [u8v]) _ (by simp)) none [] 0 0 rfl (by omega) Bytes.nil none [] 0 0 rfl (by omega) Bytes.nil 1 (by omega)).mono ?_
          rintro e w3 ⟨rfl, hb⟩
          have H3 := Lib.hid (next (nextA H2.out _) hb)
          have hbe := build3 w3 1 2 1
          have hbf := build3 (w3.alloc (.cells #[.int .u8 1, .int .u8 2, .int .u8 1] 5)) 1 2 1
          rw [World.size_alloc] at hbf
          have hnb := Bytes.new (w3.alloc (.cells #[.int .u8 1, .int .u8 2, .int .u8 1] 5)) [1, 2, 1] 5 (0, 0) #[.int .u8 1, .int .u8 2, .int .u8 1] (by simp [u8v]) ((w3.alloc (.cells #[.int .u8 1, .int .u8 2, .int .u8 1] 5)).alloc (.cells #[.int .u8 1, .int .u8 2, .int .u8 1] 5)).heap.size (by simp)
          rw [World.size_alloc w3] at hnb
          have HNB := Lib.hid hnb
          clear hb hbd hnb
          go_wp2_with fail
          refine (through_n _ (some ⟨w3.heap.size, 0, none⟩) [1, 2, 1] 3 3 rfl (by omega) (((Bytes.new w3 [1, 2, 1] 5 (0, 0) _ (by simp [u8v]) (w3.heap.size + 1) (by omega)).below ((Below.refl _ _).alloc (by simp) _)).up (by simp)) (some ⟨w3.heap.size + 1, 0, none⟩) [1, 2, 1] 3 3 rfl (by omega) HNB.out none [] 0 0 rfl (by omega) Bytes.nil 1 (by omega)).mono ?_
          rintro e w4 ⟨rfl, hb⟩
          have H4 := Lib.hid (next (nextA (nextA H3.out _) _) hb)
          clear hb hbe hbf
          go_wp2_with fail
          refine (only_n _ none [] 0 0 rfl (by omega) Bytes.nil none [] 0 0 rfl (by omega) Bytes.nil none [] 0 0 rfl (by omega) Bytes.nil).mono ?_
          rintro e w5 ⟨rfl, hb⟩
          have H5 := Lib.hid (next H4.out hb)
          clear hb
          go_wp2_with fail
          refine (roots_n _ none [] 0 0 rfl (by omega) Bytes.nil none [] 0 0 rfl (by omega) Bytes.nil).mono ?_
          rintro e w6 ⟨rfl, hb⟩
          have H6 := Lib.hid (next H5.out hb)
          clear hb
          go_wp2_with fail
          refine (works_any _).mono ?_
          rintro e w7 ⟨rfl, hb⟩
          have H7 := Lib.hid (next H6.out hb)
          clear hb
          go_wp2_with fail
          go_ret
          exact ⟨rfl, H7.out⟩
end Go.Proofs.Ytciilojlfaihjaa.PlW
