/- poly.Trim, poly.Add. -/
import Derived.Test.YtciilojlfaihjaaPlDeg
namespace Go.Proofs.Ytciilojlfaihjaa.PlW
open Go.RowKit Mem Gf FdW Pl
set_option linter.unusedVariables false

theorem trim_eq_take (l : List UInt8) : trim l = l.take (len l) := trim_take (len_le l) (fun i hi => cf_len hi) (by
  by_cases h : len l = 0
  · exact .inl h
  · exact .inr (len_last h))
set_option maxHeartbeats 400000 in
theorem trim_any (w : World) (A : Option Addr) (l : List UInt8) (n c : Nat) (hn : n = l.length) (hl : (l.length : Int) ≤ 1000000) (hc : l.length ≤ c) (hA : Bytes w w.heap.size A l) :
    Calls Try.prog 16 #[.slice A n c] w (NewOk w (trim l)) := by
  obtain ⟨i0, hi0, hz0, hz1, hz2⟩ := info_parts u8info
  subst hn
  have HL := Lib.hid hl
  have HA := Lib.hid hA
  have HT := Lib.hid (trim_eq_take l)
  have HE := Lib.hid (show (trim l).length = len l from rfl)
  have hk1 : len l ≤ l.length := len_le l
  have hk2 : (len l : Int) ≤ 1000000 := by omega
  have hk3 : len l ≤ c := by omega
  clear hl hA
  go_enter Try.func16, Try.ntmps16
  go_wp2_with fail
  refine (degree_any w A c l HL.out HA.out).mono ?_
  rintro e w1 ⟨rfl, hb⟩
  have HB := Lib.hid hb
  have HT1 := Lib.hid (hb.size)
  clear hb
  generalize hm : len l = m at *
  have HM := Lib.hid hm
  clear hm
  go_wp2_with ((with_reducible show wpList _ _ _ ((⟨some 8, _, _, _, _, _⟩ : Oper) :: _) _ _); refine wpList_app _ rfl _ _ _ rfl w1.heap.size 5 i0 _ 1 Try.underlying22 hi0 hz0 hz1 hz2 rfl none 0 0 [] rfl rfl (Own.nil) w.heap.size A c m ((l.take m).map u8v) rfl (by simp; omega) ((HA.out.take m).below HB.out) u8v_one (by simp [maxLen]; omega) (by simp; omega) (by simp) m (by simp) ?_; intro A1 c1 w2 ho1 hb1 _ _)
  go_ret
  refine ⟨A1, c1, ?_, ?_, HB.out.trans (hb1.mono HT1.out)⟩
  · rw [HE.out]; rfl
  · have := ho1.down HT1.out
    rw [HT.out]
    simpa using this

/-- Is a row's cell: the store's law. -/
theorem own_setx {w : World} {base g c k : Nat} {T : TypeId} {l : List UInt8} (h : Mem.Own w base T (some ⟨g, 0, none⟩) c (l.map u8v)) (hk : k < l.length) (x : UInt8) :
    Mem.Own (w.setCell ⟨g, k, none⟩ (.int .u8 (x.toNat : Int))) base T (some ⟨g, 0, none⟩) c ((l.set k x).map u8v) := own_set h hk _ x rfl
theorem add_step {a b out : List UInt8} {j : Nat} (hj : j < out.length) (h : ∀ k, cf out k = cf a k ^^^ (if k < j then cf b k else 0)) : ∀ k, cf (out.set j (cf out j ^^^ cf b j)) k = cf a k ^^^ (if k < j + 1 then cf b k else 0) := fun k => by
  rw [cf_set hj]
  by_cases e : k = j
  · subst e; rw [if_pos rfl, if_pos (by omega), h, if_neg (by omega), Pl.xor_zero]
  · rw [if_neg e, h]
    by_cases h2 : k < j
    · rw [if_pos h2, if_pos (by omega)]
    · rw [if_neg h2, if_neg (by omega)]
theorem add_end {a b out : List UInt8} (h : ∀ k, cf out k = cf a k ^^^ (if k < b.length then cf b k else 0)) : Eqv out (add a b) := fun k => by
  rw [h, cf_add]
  by_cases h2 : k < b.length
  · rw [if_pos h2]
  · rw [if_neg h2, cf_ge (l := b) (by omega)]
set_option maxRecDepth 100000 in
set_option maxHeartbeats 1000000 in
/-- poly.Add, the first one as long. -/
theorem addl_any (sw : Bool) (w : World) (A : Option Addr) (a : List UInt8) (ca : Nat) (B : Option Addr) (b : List UInt8) (cb : Nat) (hla : (a.length : Int) ≤ 1000000) (hle : b.length ≤ a.length) (hsw : sw = true → b.length < a.length) (hA : Bytes w w.heap.size A a) (hB : Bytes w w.heap.size B b) :
    Calls Try.prog 20 (if sw then #[.slice B b.length cb, .slice A a.length ca] else #[.slice A a.length ca, .slice B b.length cb]) w (NewOk w (trim (add a b))) := by
  have HA := Lib.hid hA
  have HB := Lib.hid hB
  have HL := Lib.hid hla
  have hlb : (b.length : Int) ≤ 1000000 := by omega
  have hlei : (b.length : Int) ≤ (a.length : Int) := by omega
  have HLE := Lib.hid hle
  clear hA hB hla
  have h1 : sw = true ∧ (b.length : Int) < (a.length : Int) ∨ sw = false ∧ ¬ (a.length : Int) < (b.length : Int) := by
    cases sw
    · exact .inr ⟨rfl, by omega⟩
    · exact .inl ⟨rfl, by have := hsw rfl; omega⟩
  clear hsw hle
  rcases h1 with ⟨rfl, h1⟩ | ⟨rfl, h1⟩
  all_goals
    simp only [if_true, Bool.false_eq_true, if_false]
    go_enter Try.func20, Try.ntmps20
    go_wp2_with fail
    refine (clone_any w A a a.length ca rfl (by have := HL.out; omega) HA.out).mono ?_
    rintro e w1 ⟨O, co, rfl, ho, hb⟩
    have HO := Lib.hid (And.intro ho hb)
    clear ho hb
    go_wp2_with fail
    go_loopw [19] (fun i wr => ∃ (j : Nat) (out : List UInt8), i = .int .i64 (j : Int) ∧ j ≤ b.length ∧ out.length = a.length ∧ (∀ k, cf out k = cf a k ^^^ (if k < j then cf b k else 0)) ∧ Mem.Own wr w.heap.size 5 O co (out.map u8v) ∧ Below w.heap.size w wr) (fun i _ => b.length - (intOf i).toNat)
    case atStart => exact ⟨0, a, rfl, Nat.zero_le _, rfl, fun k => by rw [if_neg (by omega), Pl.xor_zero], HO.out.1, HO.out.2⟩
    case round =>
      obtain ⟨j, out, rfl, hj, hol, hcf, ho, hb⟩ := hrel
      have HR := Lib.hid (And.intro ho hb)
      have HC := Lib.hid (And.intro hol hcf)
      clear ho hb hcf hol
      by_cases hjb : j < b.length
      · obtain ⟨q, off, rfl, hq, hcell⟩ := (HB.out.below HR.out.2).at_ (k := j) hjb
        have hjo : j < out.length := by rw [HC.out.1]; have := HLE.out; omega
        obtain ⟨g, rfl, hg, hgl, hcg, hfg, _⟩ := HR.out.1.at_ (k := j) (by simpa using hjo)
        have hcg' : wr.cell? ⟨g, j, none⟩ = some (.int .u8 ((cf out j).toNat : Int)) := by
          rw [hcg, List.getElem_map, cf_lt hjo]; rfl
        rw [← cf_lt hjb] at hcell
        have HST := Lib.hid (fun k => add_step (b := b) hjo HC.out.2 k)
        have HSO := Lib.hid (own_setx HR.out.1 hjo (cf out j ^^^ cf b j))
        have hji : (j : Int) < (b.length : Int) := by omega
        have hja : (j : Int) < (a.length : Int) := by omega
        have HN := Lib.hid (And.intro hjo hg)
        clear hcg hjo hg
        generalize cf out j = x at *
        generalize cf b j = y at *
        go_wp2_with fail
        refine (add_any _ _ x y rfl rfl _).mono ?_
        rintro e w2 ⟨rfl, rfl⟩
        generalize x ^^^ y = z at *
        go_wp2_with fail
        go_roundw
        case rel => exact ⟨j + 1, out.set j z, rfl, hjb, by rw [List.length_set]; exact HC.out.1, HST.out, HSO.out, HR.out.2.setCell (p := ⟨g, j, none⟩) HN.out.2 _⟩
        case measure => simp [intOf]; omega
      · obtain rfl : j = b.length := by omega
        have HR2 := Lib.hid (And.intro (add_end HC.out.2) (show a.length = out.length from HC.out.1.symm))
        go_wp2_with fail
        refine (trim_any wr O out a.length co HR2.out.2 (by rw [← HR2.out.2]; exact HL.out) (by simpa using HR.out.1.le) HR.out.1.bytes).mono ?_
        rintro e w3 ⟨O3, c3, rfl, ho, hb⟩
        rw [trim_congr HR2.out.1] at ho ⊢
        have H3 := Lib.hid (And.intro ho hb)
        clear ho hb
        go_wp2_with fail
        go_ret
        exact ⟨O3, c3, rfl, H3.out.1.down HR.out.2.size, HR.out.2.trans (H3.out.2.mono HR.out.2.size)⟩
theorem add_len_le (a b : List UInt8) : (trim (add a b)).length ≤ max a.length b.length := by
  have := len_add (a := a) (b := b) (n := max a.length b.length) (Nat.le_trans (len_le a) (Nat.le_max_left _ _)) (Nat.le_trans (len_le b) (Nat.le_max_right _ _))
  exact this
/-- poly.Add. -/
theorem padd_any (w : World) (A : Option Addr) (a : List UInt8) (n ca : Nat) (hn : n = a.length) (B : Option Addr) (b : List UInt8) (m cb : Nat) (hm : m = b.length) (hla : (a.length : Int) ≤ 1000000) (hlb : (b.length : Int) ≤ 1000000) (hA : Bytes w w.heap.size A a) (hB : Bytes w w.heap.size B b) :
    Calls Try.prog 20 #[.slice A n ca, .slice B m cb] w (NewOk w (trim (add a b))) := by
  subst hn; subst hm
  by_cases h : a.length < b.length
  · have := addl_any true w B b cb A a ca hlb (by omega) (fun _ => h) hB hA
    rw [trim_congr (Pl.add_comm b a)] at this
    simpa using this
  · have := addl_any false w A a ca B b cb hla (by omega) (fun h => by cases h) hA hB
    simpa using this
end Go.Proofs.Ytciilojlfaihjaa.PlW
