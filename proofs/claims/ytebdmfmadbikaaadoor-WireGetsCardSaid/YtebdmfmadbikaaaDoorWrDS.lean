/- The document's Get: its state, and what a field does to it. -/
import Derived.Test.YtebdmfmadbikaaaDoorWrDR
import Derived.Test.YtebdmfmadbikaaaDoorWrGetA
import Derived.Test.YtebdmfmadbikaaaDoorWb
namespace Go.Proofs.YtebdmfmadbikaaaDoor.WiW
open Go.RowKit Go.Shelf Mem Fds FdW Wi Rng
set_option linter.unusedVariables false
set_option linter.unusedSimpArgs false

/-- Get's blocks: the result at q, the reader at q + 1, the message at mb. -/
def DS (w : World) (q mb : Nat) (m : Msg) (A : Option Addr) (c : Nat) (na : Option Addr) (nc : Nat) (o : Option (List UInt8)) (W : World) : Prop :=
  Blk W q 33 (pv mz none 0 none 0) ∧ Blk W mb 33 (pv m A c na nc) ∧ RdD W q (q + 1) o ∧ OwnK W q 54 2 A m.ids.length c (m.ids.flatMap dc) ∧ Mem.Own W q 3 na nc (m.nodes.map iv) ∧ Below q w W ∧ q + 1 < mb
theorem DS.ne {w W : World} {q mb : Nat} {m : Msg} {A : Option Addr} {c : Nat} {na : Option Addr} {nc : Nat} {o : Option (List UInt8)} (h : DS w q mb m A c na nc o W) (k : Nat) (hk : k = q + 1 ∨ k = mb) : (∀ g, A = some ⟨g, 0, none⟩ → g ≠ k) ∧ (∀ g, na = some ⟨g, 0, none⟩ → g ≠ k) := by
  obtain ⟨h1, h2, ⟨_, A', n', c', h3, _⟩, h4, h5, h6, h7⟩ := h
  constructor
  · rintro g rfl rfl
    rcases hk with rfl | rfl
    · exact blk_ne_ownK h3 h4 (by decide) rfl
    · exact blk_ne_ownK h2 h4 (by decide) rfl
  · rintro g rfl rfl
    rcases hk with rfl | rfl
    · exact h3.ne_own h5 (by decide) _ rfl rfl
    · exact h2.ne_own h5 (by decide) _ rfl rfl
/-- The reader moved on. -/
theorem DS.rd {w W W' : World} {q mb : Nat} {m : Msg} {A : Option Addr} {c : Nat} {na : Option Addr} {nc : Nat} {o o' : Option (List UInt8)} (h : DS w q mb m A c na nc o W) (hf : Fr (fun k => k = q + 1) W W') (hr : RdD W' q (q + 1) o') : DS w q mb m A c na nc o' W' := by
  have hn := h.ne (q + 1) (.inl rfl)
  obtain ⟨h1, h2, h3, h4, h5, h6, h7⟩ := h
  exact ⟨h1.fr hf (by omega), h2.fr hf (by omega), hr, h4.fr hf (fun g hg e => hn.1 g hg e), h5.fr hf (fun g hg e => hn.2 g hg e), h6.trans (hf.below (Nat.le_of_lt h1.lt) fun k hk => by omega), h7⟩
/-- New blocks. -/
theorem DS.keep {w W W' : World} {q mb : Nat} {m : Msg} {A : Option Addr} {c : Nat} {na : Option Addr} {nc : Nat} {o : Option (List UInt8)} (h : DS w q mb m A c na nc o W) (hb : Below W.heap.size W W') : DS w q mb m A c na nc o W' := by
  obtain ⟨h1, h2, h3, h4, h5, h6, h7⟩ := h
  exact ⟨h1.keep hb, h2.keep hb, h3.keep hb, h4.keep hb, h5.keep hb, h6.trans (hb.mono (Nat.le_of_lt h1.lt)), h7⟩
/-- A cell of the message. -/
theorem DS.put {w W : World} {q mb : Nat} {m m' : Msg} {A : Option Addr} {c : Nat} {na : Option Addr} {nc : Nat} {o : Option (List UInt8)} (h : DS w q mb m A c na nc o W) (f : Nat) (v : Value) (hv : (pv m A c na nc).setIfInBounds f v = pv m' A c na nc) (hi : m'.ids = m.ids) (hn : m'.nodes = m.nodes) : DS w q mb m' A c na nc o (W.setCell ⟨mb, f, none⟩ v) := by
  have hf : Fr (fun k => k = mb) W (W.setCell ⟨mb, f, none⟩ v) := Fr.setCell (S := fun k => k = mb) (w' := W) (Fr.refl _ W) (p := ⟨mb, f, none⟩) (fun _ => rfl) _
  have hne := h.ne mb (.inr rfl)
  obtain ⟨h1, h2, h3, h4, h5, h6, h7⟩ := h
  refine ⟨h1.fr hf (by omega), by rw [← hv]; exact h2.set_ f v, h3.fr hf (fun k hk => by omega) (by omega), ?_, ?_, h6.trans (hf.below (Nat.le_of_lt h1.lt) fun k hk => by omega), h7⟩
  · rw [hi]; exact h4.fr hf (fun g hg e => hne.1 g hg e)
  · rw [hn]; exact h5.fr hf (fun g hg e => hne.2 g hg e)
/-- The reader turned bad, or not, of itself. -/
theorem DS.turn {w W : World} {q mb : Nat} {m : Msg} {A : Option Addr} {c : Nat} {na : Option Addr} {nc : Nat} {o : Option (List UInt8)} (h : DS w q mb m A c na nc o W) (b : Bool) : DS w q mb m A c na nc (if b then none else o) (W.setCell ⟨q + 1, 1, none⟩ (.bool (o.isNone || b))) := by
  have hf : Fr (fun k => k = q + 1) W (W.setCell ⟨q + 1, 1, none⟩ (.bool (o.isNone || b))) := Fr.setCell (S := fun k => k = q + 1) (w' := W) (Fr.refl _ W) (p := ⟨q + 1, 1, none⟩) (fun _ => rfl) _
  refine h.rd hf ?_
  obtain ⟨_, A', n', c', h3, h4⟩ := h.2.2.1
  have h3' := h3.set_ 1 (.bool (o.isNone || b))
  cases b with
  | true =>
    refine ⟨by omega, A', n', c', ?_, fun l e => by cases e⟩
    rw [Bool.or_true] at h3'
    rw [Bool.or_true]
    exact h3'
  | false =>
    rw [Bool.or_false] at h3'
    refine ⟨by omega, A', n', c', ?_, fun l e => ?_⟩
    · rw [Bool.or_false]; exact h3'
    · obtain ⟨e1, e2, e3⟩ := h4 l e
      exact ⟨e1, e2.below (hf.below (Nat.le_of_lt h.1.lt) fun k hk => by omega), e3⟩
/-- What a field did. -/
def FR (w : World) (q mb : Nat) (m : Msg) (A : Option Addr) (c : Nat) (na : Option Addr) (nc : Nat) (o : Option (List UInt8)) (f : Nat) (W : World) : Prop :=
  ∃ m' A' c' na' nc', DS w q mb m' A' c' na' nc' ((o.bind fun l => rf m l f).map (·.2)) W ∧ (∀ x, (o.bind fun l => rf m l f) = some x → m' = x.1) ∧ m'.kind = m.kind ∧ (f ≠ 8 → m'.ids = m.ids ∧ A' = A ∧ c' = c) ∧ (f ≠ 9 → m'.nodes = m.nodes ∧ na' = na ∧ nc' = nc)
/-- Get's state when the fields pre are read. -/
def DJ (w : World) (q mb : Nat) (m0 : Msg) (o0 : Option (List UInt8)) (pre : List Nat) (W : World) : Prop :=
  ∃ m A c na nc, DS w q mb m A c na nc ((o0.bind (rfs pre m0)).map (·.2)) W ∧ (∀ x, o0.bind (rfs pre m0) = some x → m = x.1) ∧ m.kind = m0.kind ∧ (8 ∉ pre → m.ids = [] ∧ A = none ∧ c = 0) ∧ (9 ∉ pre → m.nodes = [] ∧ na = none ∧ nc = 0)
theorem rfs_snoc : ∀ (pre : List Nat) (m : Msg) (l : List UInt8) (f : Nat), rfs (pre ++ [f]) m l = (rfs pre m l).bind fun p => rf p.1 p.2 f
  | [], m, l, f => by
    simp only [List.nil_append, rfs, Option.bind_some]
    cases rf m l f <;> rfl
  | g :: pre, m, l, f => by
    simp only [List.cons_append, rfs]
    cases rf m l g with
    | none => rfl
    | some x => simp only [Option.bind_some]; exact rfs_snoc pre x.1 x.2 f
theorem DJ.next {w W : World} {q mb : Nat} {m0 m : Msg} {o0 : Option (List UInt8)} {pre : List Nat} {f : Nat} {A : Option Addr} {c : Nat} {na : Option Addr} {nc : Nat} (hx : ∀ x, o0.bind (rfs pre m0) = some x → m = x.1) (hk : m.kind = m0.kind) (h8 : 8 ∉ pre → m.ids = [] ∧ A = none ∧ c = 0) (h9 : 9 ∉ pre → m.nodes = [] ∧ na = none ∧ nc = 0)
    (h : FR w q mb m A c na nc ((o0.bind (rfs pre m0)).map (·.2)) f W) : DJ w q mb m0 o0 (pre ++ [f]) W := by
  obtain ⟨m', A', c', na', nc', h1, h2, h3, h4, h5⟩ := h
  have e : o0.bind (rfs (pre ++ [f]) m0) = ((o0.bind (rfs pre m0)).map (·.2)).bind fun l => rf m l f := by
    cases o0 with
    | none => rfl
    | some l0 =>
      rw [Option.bind_some, Option.bind_some, rfs_snoc]
      rw [Option.bind_some] at hx
      cases hr : rfs pre m0 l0 with
      | none => rfl
      | some x =>
        simp only [Option.bind_some, Option.map_some]
        rw [hx x hr]
  refine ⟨m', A', c', na', nc', by rw [e]; exact h1, by rw [e]; exact h2, by rw [h3, hk], fun hn => ?_, fun hn => ?_⟩
  · rw [List.mem_append, not_or] at hn
    obtain ⟨g1, g2, g3⟩ := h4 (fun e => hn.2 (by rw [e]; simp))
    rw [g1, g2, g3]; exact h8 hn.1
  · rw [List.mem_append, not_or] at hn
    obtain ⟨g1, g2, g3⟩ := h5 (fun e => hn.2 (by rw [e]; simp))
    rw [g1, g2, g3]; exact h9 hn.1
/-- A number into a cell. -/
theorem FR.num {w W : World} {q mb : Nat} {m : Msg} {A : Option Addr} {c : Nat} {na : Option Addr} {nc : Nat} {o : Option (List UInt8)} {f n : Nat} {v : Int} (g : Int → Msg) (hr : ∀ l, rf m l f = (rnum n l).map fun p => (g (sgn p.1), p.2)) (hv : v = ((o.bind (rnum n)).map fun q => sgn q.1).getD 0)
    (hg : (g v).kind = m.kind ∧ (g v).ids = m.ids ∧ (g v).nodes = m.nodes) (h : DS w q mb (g v) A c na nc ((o.bind (rnum n)).map (·.2)) W) : FR w q mb m A c na nc o f W := by
  have e : (o.bind fun l => rf m l f) = (o.bind (rnum n)).map fun p => (g (sgn p.1), p.2) := by
    cases o with
    | none => rfl
    | some l => rw [Option.bind_some, Option.bind_some]; exact hr l
  refine ⟨g v, A, c, na, nc, ?_, fun x hx => ?_, hg.1, fun _ => ⟨hg.2.1, rfl, rfl⟩, fun _ => ⟨hg.2.2, rfl, rfl⟩⟩
  · rw [e, Option.map_map]; exact h
  · rw [e, Option.map_eq_some_iff] at hx
    obtain ⟨y, hy, rfl⟩ := hx
    rw [hy] at hv
    rw [hv]; rfl
theorem FR.txt {w W : World} {q mb : Nat} {m : Msg} {A : Option Addr} {c : Nat} {na : Option Addr} {nc : Nat} {o : Option (List UInt8)} {f n : Nat} {v : List UInt8} (g : List UInt8 → Msg) (hr : ∀ l, rf m l f = (rtx n l).map fun p => (g p.1, p.2)) (hv : v = ((o.bind (rtx n)).map (·.1)).getD [])
    (hg : (g v).kind = m.kind ∧ (g v).ids = m.ids ∧ (g v).nodes = m.nodes) (h : DS w q mb (g v) A c na nc ((o.bind (rtx n)).map (·.2)) W) : FR w q mb m A c na nc o f W := by
  have e : (o.bind fun l => rf m l f) = (o.bind (rtx n)).map fun p => (g p.1, p.2) := by
    cases o with
    | none => rfl
    | some l => rw [Option.bind_some, Option.bind_some]; exact hr l
  refine ⟨g v, A, c, na, nc, ?_, fun x hx => ?_, hg.1, fun _ => ⟨hg.2.1, rfl, rfl⟩, fun _ => ⟨hg.2.2, rfl, rfl⟩⟩
  · rw [e, Option.map_map]; exact h
  · rw [e, Option.map_eq_some_iff] at hx
    obtain ⟨y, hy, rfl⟩ := hx
    rw [hy] at hv
    rw [hv]; rfl
theorem rf_sgn {α : Type} {n : Nat} (hn : n ≤ 4) (l : List UInt8) (g : Int → α) : ((rnum n l).map fun p => (g (p.1 : Int), p.2)) = (rnum n l).map fun p => (g (sgn p.1), p.2) := by
  cases h : rnum n l with
  | none => rfl
  | some x =>
    have h1 := (rnum_some h).1
    have h2 : 256 ^ n ≤ 256 ^ 4 := Nat.pow_le_pow_right (by decide) hn
    have h3 : x.1 < 4294967296 := Nat.lt_of_lt_of_le h1 h2
    rw [Option.map_some, Option.map_some, sgn_small (by omega)]
theorem rf10 (m : Msg) (l : List UInt8) : rf m l 10 = (rtx 4 l).map fun p => ({ m with data := p.1 }, p.2) := by
  show ((rnum 4 l).bind fun p => (cut p.1 p.2).map fun q => ({ m with data := q.1 }, q.2)) = ((rnum 4 l).bind fun p => cut p.1 p.2).map _
  cases rnum 4 l <;> rfl
theorem getD_small {o : Option (List UInt8)} {n : Nat} (hn : n ≤ 1) : ∃ k : Nat, ((o.bind (rnum n)).map fun q => sgn q.1).getD 0 = (k : Int) ∧ k < 256 ∧ ∀ x, o.bind (rnum n) = some x → x.1 = k := by
  cases h : o.bind (rnum n) with
  | none => exact ⟨0, rfl, by decide, fun x hx => by cases hx⟩
  | some x =>
    obtain ⟨l, _, hl⟩ := Option.bind_eq_some_iff.1 h
    have h1 := (rnum_some hl).1
    have h2 : 256 ^ n ≤ 256 ^ 1 := Nat.pow_le_pow_right (by decide) hn
    have h3 : x.1 < 256 := Nat.lt_of_lt_of_le h1 h2
    exact ⟨x.1, sgn_small (by omega), h3, fun y hy => by injection hy with hy; rw [hy]⟩
/-- The field back. -/
theorem FR.back {w W : World} {q mb : Nat} {m : Msg} {A : Option Addr} {c : Nat} {na : Option Addr} {nc : Nat} {o : Option (List UInt8)} {k : Nat} (hk : ∀ x, o.bind (rnum 1) = some x → x.1 = k)
    (h : DS w q mb { m with back := decide (k = 1) } A c na nc (if decide (1 < k) then none else (o.bind (rnum 1)).map (·.2)) W) : FR w q mb m A c na nc o 7 W := by
  have e : (o.bind fun l => rf m l 7) = (o.bind (rnum 1)).bind fun p => if p.1 ≤ 1 then some ({ m with back := decide (p.1 = 1) }, p.2) else none := by
    cases o <;> rfl
  refine ⟨{ m with back := decide (k = 1) }, A, c, na, nc, ?_, fun x hx => ?_, rfl, fun _ => ⟨rfl, rfl, rfl⟩, fun _ => ⟨rfl, rfl, rfl⟩⟩
  · rw [e]
    cases h1 : o.bind (rnum 1) with
    | none =>
      rw [h1] at h
      rw [Option.bind_none, Option.map_none]
      by_cases hk1 : 1 < k
      · rw [if_pos (decide_eq_true hk1)] at h; exact h
      · rw [if_neg (by simp; omega)] at h; exact h
    | some x =>
      rw [h1] at h
      rw [Option.bind_some, hk x h1]
      by_cases hk1 : 1 < k
      · rw [if_pos (decide_eq_true hk1)] at h; rw [if_neg (by omega)]; exact h
      · rw [if_neg (by simp; omega)] at h; rw [if_pos (by omega)]; exact h
  · rw [e] at hx
    cases h1 : o.bind (rnum 1) with
    | none => rw [h1] at hx; cases hx
    | some y =>
      rw [h1, Option.bind_some, hk y h1] at hx
      split at hx
      · injection hx with hx; subst hx; rfl
      · cases hx
/-- The loops of ids and of nodes. -/
def IJ (w : World) (q mb : Nat) (m : Msg) (na : Option Addr) (nc : Nat) (o : Option (List UInt8)) (j : Nat) (W : World) : Prop :=
  ∃ xs A c, xs.length = j ∧ DS w q mb { m with ids := xs } A c na nc ((o.bind (rids j)).map (·.2)) W ∧ ∀ x, o.bind (rids j) = some x → xs = x.1
def NJ (w : World) (q mb : Nat) (m : Msg) (A : Option Addr) (c : Nat) (o : Option (List UInt8)) (j : Nat) (W : World) : Prop :=
  ∃ xs na nc, xs.length = j ∧ DS w q mb { m with nodes := xs } A c na nc ((o.bind (rnodes j)).map (·.2)) W ∧ ∀ x, o.bind (rnodes j) = some x → xs = x.1
theorem IJ.next {w W : World} {q mb : Nat} {m : Msg} {na : Option Addr} {nc : Nat} {o : Option (List UInt8)} {j : Nat} {xs : List (List UInt8 × Int)} {A : Option Addr} {c : Nat} {l s : List UInt8} {v : Int} {o3 : Option (List UInt8)} (hl : xs.length = j) (ho : (o.bind (rids j)).map (·.2) = some l) (hx : ∀ x, o.bind (rids j) = some x → xs = x.1)
    (hs : s = ((rtx 1 l).map (·.1)).getD []) (h3 : o3 = (rtx 1 l).map (·.2)) (hv : v = ((o3.bind (rnum 8)).map fun q => sgn q.1).getD 0) (h : DS w q mb { m with ids := xs ++ [(s, v)] } A c na nc ((o3.bind (rnum 8)).map (·.2)) W) : IJ w q mb m na nc o (j + 1) W := by
  obtain ⟨y, hy, hyl⟩ := Option.map_eq_some_iff.1 ho
  have e : o.bind (rids (j + 1)) = (rid l).map fun q => (xs ++ [q.1], q.2) := by
    cases o with
    | none => cases hy
    | some l0 =>
      rw [Option.bind_some] at hy ⊢
      rw [rids_snoc, hy, Option.bind_some, hyl, hx y hy]
  have e2 : rid l = (rtx 1 l).bind fun p => (rnum 8 p.2).map fun q => ((p.1, sgn q.1), q.2) := rfl
  refine ⟨xs ++ [(s, v)], A, c, by simp [hl], ?_, fun x hx => ?_⟩
  · rw [e, e2]
    subst h3
    cases h1 : rtx 1 l with
    | none => rw [h1] at h; exact h
    | some p =>
      rw [h1] at h
      simp only [Option.map_some, Option.bind_some] at h ⊢
      cases h2 : rnum 8 p.2 with
      | none => rw [h2] at h; exact h
      | some z => rw [h2] at h; exact h
  · rw [e, e2] at hx
    subst h3
    cases h1 : rtx 1 l with
    | none => rw [h1] at hx; cases hx
    | some p =>
      rw [h1] at hx hv hs
      simp only [Option.map_some, Option.bind_some] at hx hv hs
      cases h2 : rnum 8 p.2 with
      | none => rw [h2] at hx; cases hx
      | some z =>
        rw [h2] at hx hv
        simp only [Option.map_some, Option.getD_some] at hx hv hs
        injection hx with hx
        subst hx
        rw [hv, hs]
theorem NJ.next {w W : World} {q mb : Nat} {m : Msg} {A : Option Addr} {c : Nat} {o : Option (List UInt8)} {j : Nat} {xs : List Int} {na : Option Addr} {nc : Nat} {l : List UInt8} {v : Int} (hl : xs.length = j) (ho : (o.bind (rnodes j)).map (·.2) = some l) (hx : ∀ x, o.bind (rnodes j) = some x → xs = x.1)
    (hv : v = ((rnum 2 l).map fun q => sgn q.1).getD 0) (h : DS w q mb { m with nodes := xs ++ [v] } A c na nc ((rnum 2 l).map (·.2)) W) : NJ w q mb m A c o (j + 1) W := by
  obtain ⟨y, hy, hyl⟩ := Option.map_eq_some_iff.1 ho
  have e : o.bind (rnodes (j + 1)) = (rnum 2 l).map fun q => (xs ++ [sgn q.1], q.2) := by
    cases o with
    | none => cases hy
    | some l0 =>
      rw [Option.bind_some] at hy ⊢
      rw [rnodes_snoc, hy, Option.bind_some, hyl, hx y hy]
      exact rf_sgn (by decide) l fun z => y.1 ++ [z]
  refine ⟨xs ++ [v], na, nc, by simp [hl], ?_, fun x hx => ?_⟩
  · rw [e, Option.map_map]; exact h
  · rw [e] at hx
    obtain ⟨z, hz, rfl⟩ := Option.map_eq_some_iff.1 hx
    rw [hz] at hv
    rw [hv]; rfl
theorem IJ.done {w W : World} {q mb : Nat} {m : Msg} {A : Option Addr} {c : Nat} {na : Option Addr} {nc : Nat} {o o1 : Option (List UInt8)} {k j : Nat} (hm : m.ids = []) (hk : ∀ x, o.bind (rnum 1) = some x → x.1 = k) (ho : o1 = (o.bind (rnum 1)).map (·.2)) (h : IJ w q mb m na nc o1 j W) (hj : j ≤ k) (hd : j = k ∨ o1.bind (rids j) = none) : FR w q mb m A c na nc o 8 W := by
  have e : (o.bind fun l => rf m l 8) = (o1.bind (rids k)).map fun q => ({ m with ids := q.1 }, q.2) := by
    subst ho
    have e1 : (o.bind fun l => rf m l 8) = (o.bind (rnum 1)).bind fun p => (rids p.1 p.2).map fun q => ({ m with ids := m.ids ++ q.1 }, q.2) := by cases o <;> rfl
    rw [e1, hm]
    cases h1 : o.bind (rnum 1) with
    | none => rfl
    | some x => simp only [Option.bind_some, Option.map_some, hk x h1, List.nil_append]
  have e2 : o1.bind (rids k) = o1.bind (rids j) := by
    rcases hd with rfl | hd
    · rfl
    · rw [hd]
      cases o1 with
      | none => rfl
      | some l => exact rids_none hd k hj
  obtain ⟨xs, A', c', hl, h1, h2⟩ := h
  refine ⟨{ m with ids := xs }, A', c', na, nc, ?_, fun x hx => ?_, rfl, fun h => absurd rfl h, fun _ => ⟨rfl, rfl, rfl⟩⟩
  · rw [e, e2, Option.map_map]; exact h1
  · rw [e, e2] at hx
    obtain ⟨z, hz, rfl⟩ := Option.map_eq_some_iff.1 hx
    rw [h2 z hz]
theorem NJ.done {w W : World} {q mb : Nat} {m : Msg} {A : Option Addr} {c : Nat} {na : Option Addr} {nc : Nat} {o o1 : Option (List UInt8)} {k j : Nat} (hm : m.nodes = []) (hk : ∀ x, o.bind (rnum 1) = some x → x.1 = k) (ho : o1 = (o.bind (rnum 1)).map (·.2)) (h : NJ w q mb m A c o1 j W) (hj : j ≤ k) (hd : j = k ∨ o1.bind (rnodes j) = none) : FR w q mb m A c na nc o 9 W := by
  have e : (o.bind fun l => rf m l 9) = (o1.bind (rnodes k)).map fun q => ({ m with nodes := q.1 }, q.2) := by
    subst ho
    have e1 : (o.bind fun l => rf m l 9) = (o.bind (rnum 1)).bind fun p => (rnodes p.1 p.2).map fun q => ({ m with nodes := m.nodes ++ q.1 }, q.2) := by cases o <;> rfl
    rw [e1, hm]
    cases h1 : o.bind (rnum 1) with
    | none => rfl
    | some x => simp only [Option.bind_some, Option.map_some, hk x h1, List.nil_append]
  have e2 : o1.bind (rnodes k) = o1.bind (rnodes j) := by
    rcases hd with rfl | hd
    · rfl
    · rw [hd]
      cases o1 with
      | none => rfl
      | some l => exact rnodes_none hd k hj
  obtain ⟨xs, A', c', hl, h1, h2⟩ := h
  refine ⟨{ m with nodes := xs }, A, c, A', c', ?_, fun x hx => ?_, rfl, fun _ => ⟨rfl, rfl, rfl⟩, fun h => absurd rfl h⟩
  · rw [e, e2, Option.map_map]; exact h1
  · rw [e, e2] at hx
    obtain ⟨z, hz, rfl⟩ := Option.map_eq_some_iff.1 hx
    rw [h2 z hz]
/-- The letters of has, one by one. -/
theorem hasS_at {k i : Nat} (h1 : 1 ≤ i) (h : i < (hasS k).length) : ∃ f, f < 11 ∧ (hasS k)[i]? = some (letter f) ∧ (flds k).take i = (flds k).take (i - 1) ++ [f] ∧ f ∉ (flds k).take (i - 1) := by
  have hl := hasS_len k
  by_cases hk : k < 21
  · have : ∀ k < 21, ∀ i < 7, 1 ≤ i → i < (hasS k).length → (List.range 11).any (fun f => decide ((hasS k)[i]? = some (letter f)) && decide ((flds k).take i = (flds k).take (i - 1) ++ [f]) && decide (f ∉ (flds k).take (i - 1))) = true := by decide +kernel
    obtain ⟨f, h0, h⟩ := List.any_eq_true.1 (this k hk i (by omega) h1 h)
    rw [Bool.and_eq_true, Bool.and_eq_true, decide_eq_true_iff, decide_eq_true_iff, decide_eq_true_iff] at h
    exact ⟨f, List.mem_range.1 h0, h.1.1, h.1.2, h.2⟩
  · unfold hasS at h; rw [if_neg (by simp [isK]; omega)] at h; simp at h
theorem hasS_end {k i : Nat} (h1 : 1 ≤ i) (h : ¬ i < (hasS k).length) : (flds k).take (i - 1) = flds k := by
  by_cases hk : k < 21
  · have : ∀ k < 21, (flds k).length + 1 ≤ (hasS k).length ∨ flds k = [] := by decide +kernel
    rcases this k hk with h2 | h2
    · rw [List.take_of_length_le (by omega)]
    · rw [h2, List.take_nil]
  · rw [flds_over (by simp [isK]; omega), List.take_nil]
theorem str_at {l : List UInt8} {i : Nat} {x : UInt8} (h : l[i]? = some x) (h2 : i < (str l).size) : (str l)[i] = x := by
  have h1 := (List.getElem?_eq_some_iff.1 h)
  obtain ⟨h3, h4⟩ := h1
  exact (str_get l i h3 h2).trans h4
/-- Get's head. -/
theorem rhead_of {b : List UInt8} {k : Nat} {v2 v3 : Int} {o1 o2 o3 : Option (List UInt8)} (hk : ∀ x, rnum 1 b = some x → x.1 = k) (h1 : o1 = (rnum 1 b).map (·.2)) (hv2 : v2 = ((o1.bind (rnum 2)).map fun q => sgn q.1).getD 0) (h2 : o2 = (o1.bind (rnum 2)).map (·.2)) (hv3 : v3 = ((o2.bind (rnum 2)).map fun q => sgn q.1).getD 0) (h3 : o3 = (o2.bind (rnum 2)).map (·.2)) :
    rhead b = o3.map fun l => (msg0 k v2 v3, l) := by
  unfold rhead
  cases a1 : rnum 1 b with
  | none => rw [a1] at h1; subst h1; subst h2; subst h3; rfl
  | some x =>
    rw [a1] at h1
    have hx := hk x a1
    subst h1
    rw [Option.map_some, Option.bind_some] at hv2 h2
    rw [Option.bind_some]
    have q2 := rf_sgn (n := 2) (by decide) x.2 (fun z => z)
    cases a2 : rnum 2 x.2 with
    | none => rw [a2] at h2; subst h2; subst h3; rfl
    | some y =>
      rw [a2] at hv2 h2 q2
      subst h2
      rw [Option.map_some, Option.bind_some] at hv3 h3
      rw [Option.bind_some]
      have q3 := rf_sgn (n := 2) (by decide) y.2 (fun z => z)
      cases a3 : rnum 2 y.2 with
      | none => rw [a3] at h3; subst h3; rfl
      | some z =>
        rw [a3] at hv3 h3 q3
        subst h3
        simp only [Option.map_some, Option.some.injEq, Prod.mk.injEq, and_true] at q2 q3
        simp only [Option.map_some, Option.getD_some] at hv2 hv3 ⊢
        rw [hx, hv2, hv3, q2, q3]
theorem get_of {b : List UInt8} {m0 : Msg} {o3 : Option (List UInt8)} (h : rhead b = o3.map fun l => (m0, l)) : Wi.get b = (o3.bind (rfs (flds m0.kind) m0)).bind fun p => if p.2.length = 0 ∧ may p.1 = true then some p.1 else none := by
  unfold Wi.get rall
  rw [h]
  cases o3 <;> rfl
theorem rfs_sz {L : Nat} : ∀ {fs : List Nat} {m m1 : Msg} {l l1 : List UInt8}, (∀ f ∈ fs, f < 11) → rfs fs m l = some (m1, l1) → Sz L m l → Sz L m1 l1
  | [], m, m1, l, l1, _, h, hs => by injection h with h; injection h with h1 h2; subst h1; subst h2; exact hs
  | f :: fs, m, m1, l, l1, hf, h, hs => by
    obtain ⟨x, hx, h⟩ := Option.bind_eq_some_iff.1 h
    obtain ⟨mx, lx⟩ := x
    exact rfs_sz (fun g hg => hf g (List.mem_cons_of_mem _ hg)) h (rf_sz (hf f (List.mem_cons_self ..)) hx hs).1
theorem get_sz {b : List UInt8} {m0 : Msg} {k : Nat} {v2 v3 : Int} {o3 : Option (List UInt8)} {L : Nat} (h : rhead b = o3.map fun l => (m0, l)) (hm : msg0 k v2 v3 = m0) (hb : b.length ≤ L) : ∀ x, o3.bind (rfs (flds k) m0) = some x → Sz L x.1 x.2 := fun x hx => by
  obtain ⟨l, hl, hr⟩ := Option.bind_eq_some_iff.1 hx
  rw [hl] at h
  unfold rhead at h
  obtain ⟨p1, a1, h⟩ := Option.bind_eq_some_iff.1 h
  obtain ⟨p2, a2, h⟩ := Option.bind_eq_some_iff.1 h
  obtain ⟨p3, a3, h⟩ := Option.map_eq_some_iff.1 h
  injection h with _ h
  have l1 := rnum_len a1
  have l2 := rnum_len a2
  have l3 := rnum_len a3
  rw [h] at l3
  obtain ⟨mx, lx⟩ := x
  refine rfs_sz flds_lt hr ?_
  subst hm
  exact ⟨by simp [msg0]; omega, by simp [msg0], by simp [msg0], fun x hx => by cases hx⟩
theorem DS.frS {S : Nat → Prop} {w W W' : World} {q mb : Nat} {m : Msg} {A : Option Addr} {c : Nat} {na : Option Addr} {nc : Nat} {o : Option (List UInt8)} (h : DS w q mb m A c na nc o W) (hf : Fr S W W') (hS : ∀ k, S k → q + 1 < k ∧ k ≠ mb ∧ (∀ g, A = some ⟨g, 0, none⟩ → g ≠ k) ∧ (∀ g, na = some ⟨g, 0, none⟩ → g ≠ k)) : DS w q mb m A c na nc o W' := by
  obtain ⟨h1, h2, h3, h4, h5, h6, h7⟩ := h
  exact ⟨h1.fr hf (fun h => by have := (hS _ h).1; omega), h2.fr hf (fun h => (hS _ h).2.1 rfl), h3.fr hf (fun k hk => by have := (hS k hk).1; omega) (fun h => by have := (hS _ h).1; omega), h4.fr hf (fun g hg e => (hS g e).2.2.1 g hg rfl), h5.fr hf (fun g hg e => (hS g e).2.2.2 g hg rfl), h6.trans (hf.below (Nat.le_of_lt h1.lt) fun k hk => by have := (hS k hk).1; omega), h7⟩
/-- The rows' blocks are there, and are two. -/
theorem DS.lo {w W : World} {q mb : Nat} {m : Msg} {A : Option Addr} {c : Nat} {na : Option Addr} {nc : Nat} {o : Option (List UInt8)} (h : DS w q mb m A c na nc o W) : (∀ g, A = some ⟨g, 0, none⟩ → g < W.heap.size) ∧ (∀ g, na = some ⟨g, 0, none⟩ → g < W.heap.size) ∧ ∀ g, na = some ⟨g, 0, none⟩ → ¬ A = some ⟨g, 0, none⟩ := by
  obtain ⟨_, _, _, h4, h5, _⟩ := h
  refine ⟨fun g e => ?_, fun g e => ?_, fun g e => ?_⟩
  · rcases h4.form with ⟨e1, _⟩ | ⟨g2, e1, _, h, _⟩
    · rw [e] at e1; cases e1
    · rw [e] at e1; injection e1 with e1; injection e1 with e1; rw [e1]; exact h
  · rcases h5.form with ⟨e1, _⟩ | ⟨g2, e1, _, h, _⟩
    · rw [e] at e1; cases e1
    · rw [e] at e1; injection e1 with e1; injection e1 with e1; rw [e1]; exact h
  · rcases h5.2 with ⟨hv, _⟩ | ⟨g2, cap, cur, hv, _, hh, _⟩
    · injection hv with hv; rw [e] at hv; cases hv
    · injection hv with hv _ _
      rw [e] at hv; injection hv with hv; injection hv with hv
      subst hv
      exact blk_ne_ownK (T := 3) (cs := cur) hh h4 (by decide)
/-- The row of ids grew, and its cell was set. -/
theorem DS.appI {w W W' : World} {q mb : Nat} {m : Msg} {xs ys : List (List UInt8 × Int)} {A A' : Option Addr} {c c' N : Nat} {na : Option Addr} {nc : Nat} {o : Option (List UInt8)} (h : DS w q mb { m with ids := xs } A c na nc o W) (ho : OwnK W' q 54 2 A' N c' (ys.flatMap dc)) (hN : ys.length = N) (hg : W.grownBy W' (A.map (·.block))) : DS w q mb { m with ids := ys } A' c' na nc o (W'.setCell ⟨mb, 11, none⟩ (.slice A' N c')) := by
  subst hN
  have hlo := h.lo
  have hn := h.ne
  obtain ⟨h1, h2, h3, h4, h5, h6, h7⟩ := h
  have hA : ∀ k, A.map (·.block) = some k → A = some ⟨k, 0, none⟩ := fun k hk => by
    rcases h4.form with ⟨e1, _⟩ | ⟨g2, e1, _⟩
    · rw [e1] at hk; cases hk
    · rw [e1] at hk ⊢; injection hk with hk; dsimp only at hk; rw [hk]
  have hf : Fr (fun k => A.map (·.block) = some k) W W' := Fr.grown hg fun k h => h
  have hf2 : Fr (fun k => k = mb) W' (W'.setCell ⟨mb, 11, none⟩ (.slice A' ys.length c')) := Fr.setCell (S := fun k => k = mb) (w' := W') (Fr.refl _ W') (p := ⟨mb, 11, none⟩) (fun _ => rfl) _
  have g1 := h1.fr hf (fun e => blk_ne_ownK h1 h4 (by decide) (hA _ e))
  have g2 := h2.fr hf (fun e => blk_ne_ownK h2 h4 (by decide) (hA _ e))
  have hq0 : ∀ k, A.map (·.block) = some k → q ≤ k := fun k hk => by
    rcases h4.form with ⟨e1, _⟩ | ⟨g2, e1, h, _⟩
    · rw [e1] at hk; cases hk
    · rw [e1] at hk; injection hk with hk; dsimp only at hk; omega
  have g3 := h3.fr hf hq0 (fun e => (hn (q + 1) (.inl rfl)).1 _ (hA _ e) rfl)
  have g5 := h5.fr hf (fun g e hk => hlo.2.2 g e (hA _ hk))
  refine ⟨g1.fr hf2 (by omega), g2.set_ 11 (.slice A' ys.length c'), g3.fr hf2 (fun k hk => by omega) (by omega), ho.fr hf2 (fun g e hk => ?_), g5.fr hf2 (fun g e hk => g2.ne_own g5 (by decide) g e hk), (h6.trans (hf.below (Nat.le_of_lt h1.lt) hq0)).trans (hf2.below (Nat.le_of_lt g1.lt) fun k hk => by omega), h7⟩
  subst e
  exact blk_ne_ownK g2 ho (by decide) (by rw [hk])
theorem DS.appN {w W W' : World} {q mb : Nat} {m : Msg} {xs ys : List Int} {A na na' : Option Addr} {c nc nc' N : Nat} {o : Option (List UInt8)} (h : DS w q mb { m with nodes := xs } A c na nc o W) (ho : Mem.Own W' q 3 na' nc' (ys.map iv)) (hN : ys.length = N) (hg : W.grownBy W' (na.map (·.block))) : DS w q mb { m with nodes := ys } A c na' nc' o (W'.setCell ⟨mb, 12, none⟩ (.slice na' N nc')) := by
  subst hN
  have hlo := h.lo
  have hn := h.ne
  obtain ⟨h1, h2, h3, h4, h5, h6, h7⟩ := h
  have hA : ∀ k, na.map (·.block) = some k → na = some ⟨k, 0, none⟩ := fun k hk => by
    rcases h5.form with ⟨e1, _⟩ | ⟨g2, e1, _⟩
    · rw [e1] at hk; cases hk
    · rw [e1] at hk ⊢; injection hk with hk; dsimp only at hk; rw [hk]
  have hf : Fr (fun k => na.map (·.block) = some k) W W' := Fr.grown hg fun k h => h
  have hf2 : Fr (fun k => k = mb) W' (W'.setCell ⟨mb, 12, none⟩ (.slice na' ys.length nc')) := Fr.setCell (S := fun k => k = mb) (w' := W') (Fr.refl _ W') (p := ⟨mb, 12, none⟩) (fun _ => rfl) _
  have g1 := h1.fr hf (fun e => h1.ne_own h5 (by decide) _ (hA _ e) rfl)
  have g2 := h2.fr hf (fun e => h2.ne_own h5 (by decide) _ (hA _ e) rfl)
  have hq0 : ∀ k, na.map (·.block) = some k → q ≤ k := fun k hk => by
    rcases h5.form with ⟨e1, _⟩ | ⟨g2, e1, h, _⟩
    · rw [e1] at hk; cases hk
    · rw [e1] at hk; injection hk with hk; dsimp only at hk; omega
  have g3 := h3.fr hf hq0 (fun e => (hn (q + 1) (.inl rfl)).2 _ (hA _ e) rfl)
  have g4 := h4.fr hf (fun g e hk => hlo.2.2 g (hA _ hk) e)
  refine ⟨g1.fr hf2 (by omega), g2.set_ 12 (.slice na' ys.length nc'), g3.fr hf2 (fun k hk => by omega) (by omega), g4.fr hf2 (fun g e hk => ?_), ho.fr hf2 (fun g e hk => g2.ne_own ho (by decide) g e hk), (h6.trans (hf.below (Nat.le_of_lt h1.lt) hq0)).trans (hf2.below (Nat.le_of_lt g1.lt) fun k hk => by omega), h7⟩
  subst e
  exact blk_ne_ownK g2 g4 (by decide) (by rw [hk])
theorem DS.blkI {w W W' : World} {q mb : Nat} {m : Msg} {A : Option Addr} {c : Nat} {na : Option Addr} {nc : Nat} {o : Option (List UInt8)} (h : DS w q mb m A c na nc o W) (hg : W.grownBy W' (A.map (·.block))) : Blk W' mb 33 (pv m A c na nc) := by
  refine h.2.1.fr (S := fun k => A.map (·.block) = some k) (Fr.grown hg fun k h => h) (fun e => ?_)
  rcases h.2.2.2.1.form with ⟨e1, _⟩ | ⟨g2, e1, _⟩
  · rw [e1] at e; cases e
  · rw [e1] at e; injection e with e; exact (h.ne mb (.inr rfl)).1 g2 e1 e
theorem DS.blkN {w W W' : World} {q mb : Nat} {m : Msg} {A : Option Addr} {c : Nat} {na : Option Addr} {nc : Nat} {o : Option (List UInt8)} (h : DS w q mb m A c na nc o W) (hg : W.grownBy W' (na.map (·.block))) : Blk W' mb 33 (pv m A c na nc) := by
  refine h.2.1.fr (S := fun k => na.map (·.block) = some k) (Fr.grown hg fun k h => h) (fun e => ?_)
  rcases h.2.2.2.2.1.form with ⟨e1, _⟩ | ⟨g2, e1, _⟩
  · rw [e1] at e; cases e
  · rw [e1] at e; injection e with e; exact (h.ne mb (.inr rfl)).2 g2 e1 e
/-- What the document's Get leaves. -/
def RGotR (w : World) (b : List UInt8) (e : Ending) (w' : World) : Prop := Below w.heap.size w w' ∧ match Wi.get b with
  | some m => ∃ A c na nc, e = .returned (.tuple #[.agg (pv m A c na nc), .bool true]) ∧ PIn w' w'.heap.size m A na
  | none => e = .returned (.tuple #[.agg (pv mz none 0 none 0), .bool false])
end Go.Proofs.YtebdmfmadbikaaaDoor.WiW
