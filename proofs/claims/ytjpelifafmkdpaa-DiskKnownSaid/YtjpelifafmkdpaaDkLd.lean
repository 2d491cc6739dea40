/- A disk and the document's disk side by side; the law's helper few. -/
import Derived.Test.YtjpelifafmkdpaaDkRn
import Derived.Test.YtjpelifafmkdpaaOpenD
namespace Go.Proofs.Ytjpelifafmkdpaa.DkW
open Go.RowKit Go.Shelf Mem Rng
set_option linter.unusedVariables false

def Few (l : List Open.OneD) : Prop := l.length ≤ 60 ∧ ∀ x ∈ l, x.b.length ≤ 300
def FewOk (l : List Open.OneD) (w : World) (e : Ending) (w' : World) : Prop := (∃ b : Bool, e = .returned (.bool b) ∧ (b = true → Few l)) ∧ w = w'
set_option maxHeartbeats 1000000 in
theorem few_any (w : World) (A : Option Addr) (l : List Open.OneD) (c : Nat) (hF : Cells w w.heap.size A (l.flatMap Open.OneD.cells)) (hm : (l.length : Int) ≤ 9223372036854775807) :
    Calls Try.prog 25 #[.slice A l.length c] w (FewOk l w) := by
  obtain ⟨n, hn⟩ : ∃ n, l.length = n := ⟨_, rfl⟩
  rw [hn] at hm ⊢
  have HN := Lib.hid hn
  clear hn
  go_enter Try.func25, Try.ntmps25
  go_wp2_with fail
  go_loop [3] (fun i => ∃ (j : Nat), i = .int .i64 (j : Int) ∧ j ≤ n ∧ ∀ x ∈ l.take j, x.b.length ≤ 300) (fun i => n - (intOf i).toNat)
  case atStart => exact ⟨0, rfl, Nat.zero_le _, fun x hx => by cases hx⟩
  case round =>
    obtain ⟨j, rfl, hj, hall⟩ := hrel
    have HV := Lib.hid hall
    clear hall
    by_cases hjl : j < n
    · obtain ⟨x, hx⟩ : ∃ x, l[j]? = some x := ⟨l[j]'(by rw [HN.out]; exact hjl), List.getElem?_eq_getElem _⟩
      obtain ⟨b, off, rfl, hbl, _, _, _, hc1⟩ := Open.dcall_at hF hx
      have h1 : (j : Int) < (n : Int) := by omega
      have h0 : (0 : Int) ≤ (j : Int) := by omega
      obtain ⟨m, hm2⟩ : ∃ m, x.b.length = m := ⟨_, rfl⟩
      rw [hm2] at hc1
      have HX := Lib.hid (And.intro hx hm2)
      clear hx hm2
      by_cases hg : m ≤ 300
      · have hg1 : ¬ (300 : Int) < (m : Int) := by omega
        go_wp2_with fail
        go_round
        case rel => exact ⟨j + 1, rfl, hjl, fun y hy => (mem_take_succ HX.out.1 hy).elim (HV.out y) (fun e => by rw [e, HX.out.2]; omega)⟩
        case measure => simp [intOf]; omega
      · have hg1 : (300 : Int) < (m : Int) := by omega
        go_wp2_with fail
        go_ret
        exact ⟨⟨false, rfl, fun h => by cases h⟩, rfl⟩
    · obtain rfl : j = n := by omega
      by_cases h40 : j ≤ 60
      · have h41 : (j : Int) ≤ 60 := by omega
        go_wp2_with fail
        go_ret
        refine ⟨⟨true, rfl, fun _ => ⟨by rw [HN.out]; omega, fun x hx => HV.out x ?_⟩⟩, rfl⟩
        rw [← HN.out, List.take_length]; exact hx
      · have h41 : ¬ (j : Int) ≤ 60 := by omega
        go_wp2_with fail
        go_ret
        exact ⟨⟨false, rfl, fun h => by cases h⟩, rfl⟩
/-- Disks, the document's disk, and blocks Y of the law's own. -/
def LSd (w0 : World) (R : List (Nat × DS)) (q : Nat) (t : DS) (Y : Nat → Prop) (w : World) : Prop := ∃ G, RdS G q t w ∧ DSt w0 R (fun k => Y k ∨ G k) w ∧ ∀ k, G k → ¬ Y k
def LdOk (w0 : World) (R : List (Nat × DS)) (q : Nat) (t : DS) (Y : Nat → Prop) (w : World) (v : Value) (e : Ending) (w' : World) : Prop := e = .returned v ∧ LSd w0 R q t Y w' ∧ Fr (fun k => ¬ Y k) w w'
section
variable {w0 w w' : World} {R : List (Nat × DS)} {q p i : Nat} {t t' s s' : DS} {X Y Z : Nat → Prop}
theorem LSd.below (h : LSd w0 R q t Y w) : Below w0.heap.size w0 w := by obtain ⟨_, _, h, _⟩ := h; exact h.below
theorem LSd.keep (h : LSd w0 R q t Y w) (hb : Below w.heap.size w w') : LSd w0 R q t Y w' := by
  obtain ⟨G, h1, h2, h3⟩ := h; exact ⟨G, h1.keep hb, h2.keep hb, h3⟩
theorem LSd.other (h : LSd w0 R q t Y w) (hf : Fr Y w w') : LSd w0 R q t Y w' := by
  obtain ⟨G, h1, h2, h3⟩ := h; exact ⟨G, h1.fr hf h3, h2.other (hf.mono fun _ _ h => .inl h), h3⟩
theorem LSd.more (h : LSd w0 R q t Y w) (hb : Below w.heap.size w w') (hZ : ∀ k, Z k → w.heap.size ≤ k ∧ k < w'.heap.size) : LSd w0 R q t (fun k => Y k ∨ Z k) w' := by
  obtain ⟨G, h1, h2, h3⟩ := h
  exact ⟨G, h1.keep hb, (h2.more hb hZ).less (fun k hk => hk.elim (fun h => h.elim (fun h => .inl (.inl h)) .inr) (fun h => .inl (.inr h))), fun k hk h => h.elim (h3 k hk) fun hz => by have h4 := h1.lt k hk; have h5 := (hZ k hz).1; omega⟩
theorem LSd.less (h : LSd w0 R q t Y w) (hZ : ∀ k, Z k → Y k) : LSd w0 R q t Z w := by
  obtain ⟨G, h1, h2, h3⟩ := h
  exact ⟨G, h1, h2.less fun k hk => hk.imp (hZ k) id, fun k hk hz => h3 k hk (hZ k hz)⟩
theorem LSd.disk {P : Program} {f : Nat} {args : Array Value} {v : Value} (h : LSd w0 R q t Y w) (hi : R[i]? = some (p, s)) (hc : ∀ F, DkA F p s w → Calls P f args w (DkOk w F p s' v)) : Calls P f args w (LdOk w0 (R.set i (p, s')) q t Y w v) := by
  obtain ⟨G, h1, h2, h3⟩ := h
  exact (h2.turn hi hc).mono fun e w' ⟨he, k1, k2⟩ => ⟨he, ⟨G, h1.fr k2 (fun k hk hn => hn (.inr hk)), k1, h3⟩, k2.mono fun k _ hn hy => hn (.inl hy)⟩
theorem LSd.ref {P : Program} {f : Nat} {args : Array Value} {v : Value} (h : LSd w0 R q t Y w) (hc : ∀ G, RdS G q t w → Calls P f args w (RdOk w G q t' v)) : Calls P f args w (LdOk w0 R q t' Y w v) := by
  obtain ⟨G, h1, h2, h3⟩ := h
  refine (hc G h1).mono fun e w' ⟨he, G', k1, k2, k3⟩ => ⟨he, ⟨G', k1, ?_, fun k hk hy => ?_⟩, k3.mono fun k _ hk => h3 k hk⟩
  · have h6 := h2.other (k3.mono fun k _ hk => .inr hk)
    obtain ⟨Fs', g1', g2', g3', g4', g5'⟩ := h2
    refine ⟨Fs', fun i p s hi => DkM.fr (g1' i p s hi) k3 fun k hk hg => (g3' i k hk).2.2 (.inr hg), g2', fun i k hk => ⟨(g3' i k hk).1, Nat.lt_of_lt_of_le (g3' i k hk).2.1 k3.size, fun hx => hx.elim (fun hy => (g3' i k hk).2.2 (.inl hy)) fun hg => (k2 k hg).elim (fun hg => (g3' i k hk).2.2 (.inr hg)) fun hle => by have := (g3' i k hk).2.1; omega⟩, fun k hk => ?_, h6.below⟩
    rcases hk with hk | hk
    · exact ⟨Nat.lt_of_lt_of_le (g4' k (.inl hk)).1 k3.size, (g4' k (.inl hk)).2⟩
    · refine ⟨k1.lt k hk, ?_⟩
      rcases k2 k hk with hg | hle
      · exact (g4' k (.inr hg)).2
      · exact Nat.le_trans g5'.size hle
  · rcases k2 k hk with hg | hle
    · exact h3 k hg hy
    · obtain ⟨_, _, _, _, g4, _⟩ := h2
      have := (g4 k (.inl hy)).1; omega
theorem DSt.pick (h : DSt w0 R X w) (hi : R[i]? = some (p, s)) : DSt w0 [(p, s)] X w := by
  obtain ⟨Fs, h1, h2, h3, h4, h5⟩ := h
  refine ⟨fun j => if j = 0 then Fs i else fun _ => False, fun j q t hj => ?_, fun j l k hjl hk hk' => ?_, fun j k hk => ?_, h4, h5⟩
  · rcases j with _ | j
    · injection hj with hj; injection hj with e1 e2; subst e1; subst e2
      exact h1 i p s hi
    · cases hj
  · dsimp only at hk hk'
    split at hk
    · split at hk'
      · omega
      · exact hk'
    · exact hk
  · dsimp only at hk
    split at hk
    · exact h3 i k hk
    · exact hk.elim
theorem LSd.pick (h : LSd w0 R q t Y w) (hi : R[i]? = some (p, s)) : LSd w0 [(p, s)] q t Y w := by
  obtain ⟨G, h1, h2, h3⟩ := h; exact ⟨G, h1, h2.pick hi, h3⟩
theorem LSd.start (h : DSt w0 R (fun _ => False) w) {G : Nat → Prop} (h1 : RdS G q t w') (h2 : ∀ k, G k → w.heap.size ≤ k) (hb : Below w.heap.size w w') : LSd w0 R q t (fun _ => False) w' :=
  ⟨G, h1, h.more hb fun k hk => ⟨h2 k hk, h1.lt k hk⟩, fun _ _ h => h⟩
/-- The document's cells, where the law looks at them. -/
theorem LSd.cells (h : LSd w0 R q t Y w) : ∃ A c, w.cell? ⟨q, 0, none⟩ = some (.slice A t.n c) ∧ w.cell? ⟨q, 1, none⟩ = some (.int .i64 (t.steps : Int)) ∧ w.cell? ⟨q, 3, none⟩ = some (.bool t.off) := by
  obtain ⟨G, ⟨⟨A, c, hd⟩, _⟩, _⟩ := h
  exact ⟨A, c, hd.cells.1, hd.cells.2.1, hd.cells.2.2.2⟩
variable (h : LSd w0 R q t Y w)
include h
theorem lrwrite (a : Int) (l : List UInt8) (hs : t.steps + 1 ≤ 256 ^ 3) (hl : l.length ≤ 256 ^ 3) : Calls Try.prog 36 #[.pointer (some ⟨q, 0, none⟩), .int .i64 a, .string (str l)] w (LdOk w0 R q (t.write a l).1 Y w (.int .i64 (t.write a l).2)) :=
  h.ref fun G hg => rwrite_any hg a l hs hl
theorem lrfail (n : Int) (hn : n ≤ 9223372036854775807) : Calls Try.prog 39 #[.pointer (some ⟨q, 0, none⟩), .int .i64 n] w (LdOk w0 R q (t.fail n) Y w (.tuple #[])) := h.ref fun G hg => rfail_any hg n hn
theorem lrcrash : Calls Try.prog 40 #[.pointer (some ⟨q, 0, none⟩)] w (LdOk w0 R q t.crash Y w (.tuple #[])) := h.ref fun G hg => rcrash_any hg
theorem lrsync (hN : ∀ i, (t.N i).length = 256) (hs : t.steps + 1 ≤ 256 ^ 3) : Calls Try.prog 38 #[.pointer (some ⟨q, 0, none⟩)] w (LdOk w0 R q t.sync.1 Y w (.int .i64 t.sync.2)) := h.ref fun G hg => rsync_any hg hN hs
theorem lron (A : Option Addr) (fates : List UInt8) (m c : Nat) (hm : fates.length = m) (hA : Bytes w w0.heap.size A fates) : Calls Try.prog 41 #[.pointer (some ⟨q, 0, none⟩), .slice A m c] w (LdOk w0 R q (t.on fates) Y w (.tuple #[])) := by
  have hb := h.below
  obtain ⟨G0, h1, h2, h3⟩ := h
  obtain ⟨Fs, g1, g2, g3, g4, g5⟩ := h2
  have hg0 : ∀ k, G0 k → w0.heap.size ≤ k := fun k hk => (g4 k (.inr hk)).2
  have h' : LSd w0 R q t Y w := ⟨G0, h1, ⟨Fs, g1, g2, g3, g4, g5⟩, h3⟩
  -- the blocks of the document's disk lie behind the law's arguments
  refine (ron_any h1 w0.heap.size A fates m c hm hA hb.size hg0).mono fun e w' hk => ?_
  obtain ⟨he, G', k1, k2, k3⟩ := hk
  have hr : LSd w0 R q (t.on fates) Y w' ∧ Fr (fun k => ¬ Y k) w w' := by
    refine ⟨⟨G', k1, ⟨Fs, fun i p s hi => DkM.fr (g1 i p s hi) k3 fun k hk hg => (g3 i k hk).2.2 (.inr hg), g2, fun i k hk => ⟨(g3 i k hk).1, Nat.lt_of_lt_of_le (g3 i k hk).2.1 k3.size, fun hx => hx.elim (fun hy => (g3 i k hk).2.2 (.inl hy)) fun hg => (k2 k hg).elim (fun hg => (g3 i k hk).2.2 (.inr hg)) fun hle => by have := (g3 i k hk).2.1; omega⟩, fun k hk => ?_, g5.trans (k3.below g5.size fun k hk => hg0 k hk)⟩, fun k hk hy => ?_⟩, k3.mono fun k _ hk => h3 k hk⟩
    · rcases hk with hk | hk
      · exact ⟨Nat.lt_of_lt_of_le (g4 k (.inl hk)).1 k3.size, (g4 k (.inl hk)).2⟩
      · refine ⟨k1.lt k hk, ?_⟩
        rcases k2 k hk with hg | hle
        · exact hg0 k hg
        · exact Nat.le_trans g5.size hle
    · rcases k2 k hk with hg | hle
      · exact h3 k hg hy
      · have := (g4 k (.inl hy)).1; omega
  exact ⟨he, hr⟩
theorem lrread (a : Int) : Calls Try.prog 37 #[.pointer (some ⟨q, 0, none⟩), .int .i64 a] w fun e w' => e = .returned (.tuple #[.string (str (if t.may a 0 = 0 then t.N a else [])), .int .i64 (t.may a 0)]) ∧ w = w' := by
  obtain ⟨G, h1, _⟩ := h; exact rread_any h1 a
theorem lropen : Calls Try.prog 29 #[.pointer (some ⟨q, 0, none⟩)] w fun e w' => e = .returned (.int .i64 (t.L.length : Int)) ∧ w = w' := by
  obtain ⟨G, h1, _⟩ := h; exact ropen_any h1
variable (hi : R[i]? = some (p, s))
include hi
theorem lwrite (a : Int) (ha : I64 a) (A : Option Addr) (l : List UInt8) (m c : Nat) (hm : l.length = m) (hA : Bytes w w.heap.size A l) (hs : s.steps + 1 ≤ 256 ^ 3) :
    Calls Try.prog 23 #[.pointer (some ⟨p, 0, none⟩), .int .i64 a, .slice A m c] w (LdOk w0 (R.set i (p, (s.write a l).1)) q t Y w (.int .i64 (s.write a l).2)) := by
  subst hm
  exact h.disk hi fun F hd => write_any hd a ha A l c hA hs
theorem lsync (hs : s.steps + 1 ≤ 256 ^ 3) : Calls Try.prog 22 #[.pointer (some ⟨p, 0, none⟩)] w (LdOk w0 (R.set i (p, s.sync.1)) q t Y w (.int .i64 s.sync.2)) := h.disk hi fun F hd => sync_any hd hs
theorem lfail (n : Int) (hn : n ≤ 9223372036854775807) : Calls Try.prog 21 #[.pointer (some ⟨p, 0, none⟩), .int .i64 n] w (LdOk w0 (R.set i (p, s.fail n)) q t Y w (.tuple #[])) := h.disk hi fun F hd => fail_any hd n hn
theorem lcrash : Calls Try.prog 13 #[.pointer (some ⟨p, 0, none⟩)] w (LdOk w0 (R.set i (p, s.crash)) q t Y w (.tuple #[])) :=
  h.disk hi fun F hd => (crash_any hd).mono fun e w' ⟨he, k1, k2, k3⟩ => ⟨he, F, k1, fun _ h => .inl h, k2⟩
theorem lon (A : Option Addr) (fates : List UInt8) (m c : Nat) (hm : fates.length = m) (hA : Bytes w w.heap.size A fates) (hf : fates.length ≤ 256 ^ 3) :
    Calls Try.prog 14 #[.pointer (some ⟨p, 0, none⟩), .slice A m c] w (LdOk w0 (R.set i (p, s.on fates)) q t Y w (.tuple #[])) := by
  subst hm
  exact h.disk hi fun F hd => on_any hd A fates c hA hf
theorem lread (a : Int) (ha : I64 a) : Calls Try.prog 12 #[.pointer (some ⟨p, 0, none⟩), .int .i64 a] w (fun e w' => ∃ A c, e = .returned (.tuple #[.slice A (if s.may a 0 = 0 then s.N a else []).length c, .int .i64 (s.may a 0)]) ∧ Row w' w.heap.size A ((if s.may a 0 = 0 then s.N a else []).map u8v) ∧ Below w.heap.size w w') := by
  obtain ⟨G, h1, h2, h3⟩ := h
  exact (dread h2 hi a ha).mono fun e w' ⟨A, c, he, k1, k2, k3, _⟩ => ⟨A, c, he, k1, k3⟩
theorem lcopy : Calls Try.prog 15 #[.pointer (some ⟨p, 0, none⟩)] w (fun e w' => ∃ p', e = .returned (.pointer (some ⟨p', 0, none⟩)) ∧ LSd w0 (R ++ [(p', s)]) q t Y w') := by
  obtain ⟨G, h1, h2, h3⟩ := h
  exact (dcopy h2 hi).mono fun e w' ⟨p', he, k1, k2⟩ => ⟨p', he, G, h1.keep k2, k1, h3⟩
theorem lopen : Calls Try.prog 18 #[.pointer (some ⟨p, 0, none⟩)] w fun e w' => e = .returned (.int .i64 (s.L.length : Int)) ∧ w = w' := by
  obtain ⟨G, h1, h2, h3⟩ := h; exact dopen h2 hi
theorem loff : Calls Try.prog 19 #[.pointer (some ⟨p, 0, none⟩)] w fun e w' => e = .returned (.bool s.off) ∧ w = w' := by
  obtain ⟨G, h1, h2, h3⟩ := h; exact doff h2 hi
theorem lsteps : Calls Try.prog 24 #[.pointer (some ⟨p, 0, none⟩)] w fun e w' => e = .returned (.int .i64 (s.steps : Int)) ∧ w = w' := by
  obtain ⟨G, h1, h2, h3⟩ := h; exact dsteps h2 hi
theorem lblocks : Calls Try.prog 28 #[.pointer (some ⟨p, 0, none⟩)] w fun e w' => e = .returned (.int .i64 (s.n : Int)) ∧ w = w' := by
  obtain ⟨G, h1, h2, h3⟩ := h; exact dblocks h2 hi
theorem LSd.lenN (a : Int) : (s.N a).length = 256 := by obtain ⟨G, h1, h2, h3⟩ := h; exact h2.lenN hi a
end
end Go.Proofs.Ytjpelifafmkdpaa.DkW
