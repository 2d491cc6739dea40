/- The document's May and Put of a share. -/
import Derived.Test.YtlmcmcafbepjmaaShPut
namespace Go.Proofs.Ytlmcmcafbepjmaa.ShW
open Go.RowKit Go.Shelf Mem Fds Bv
open FdW (Stg Has HasR byte_stg raw_stg long_stg word_stg out_has NewOk)
set_option linter.unusedVariables false

theorem u8inf : (Try.prog.info? 5).map (fun i => (i.zero, i.size, i.bytes)) = some (some (.int .u8 0), 1, 1) := by kernel_rfl
/-- Bytes appended to a row of the call's own. -/
theorem wpList_appB {ops : Array Oper} {rest : List Oper} {o : Oper} {a : Act} {Q : Exit → Act → World → Prop} (w : World) (hgd : o.guard = none) (s x : Operand) (ho : o.op = .call { callee := .builtin .append, args := #[s, x], argTypes := #[22, 22] })
    (base : Nat) (hbase : base ≤ w.heap.size) (A : Option Addr) (n c : Nat) (l : List UInt8) (hs : a.eval s = .slice A n c) (hn : l.length = n) (hown : Mem.Own w base 5 A c (l.map u8v)) (M : Nat) (S : Option Addr) (m d : Nat) (b : List UInt8) (hx : a.eval x = .slice S m d) (hm : b.length = m) (hB : Bytes w M S b) (hmx : n + m ≤ 256 ^ 3) (N : Nat) (hN : N = n + m)
    (h : ∀ A' c' w', Mem.Own w' base 5 A' c' ((l ++ b).map u8v) → Below base w w' → w.grownBy w' (A.map (·.block)) → wpList Try.prog ops Q rest (a.put o.dst (.slice A' N c')) w') : wpList Try.prog ops Q (o :: rest) a w := by
  obtain ⟨i0, hi0, hz0, hz1, hz2⟩ := info_parts u8inf
  exact wpList_app w hgd s x _ ho base 5 i0 _ 1 Try.underlying22 hi0 hz0 hz1 hz2 rfl A c n (l.map u8v) hs (by rw [List.length_map, hn]) hown M S d m (b.map u8v) hx (by rw [List.length_map, hm]) hB u8v_one (by rw [List.length_map, List.length_map, hn, hm]; unfold maxLen; omega) (by rw [List.length_map, List.length_map, hn, hm]; omega) hbase N hN fun A' c' w' h1 h2 h3 _ => h A' c' w' (by rw [List.map_append]; exact h1) h2 h3
def RMayOk (b : Bool) (w : World) (e : Ending) (w' : World) : Prop := e = .returned (.bool b) ∧ Below w.heap.size w w'
theorem rmay_any (w : World) (s : Sh) (A B : Option Addr) (n c m d : Nat) (hn : s.key.length = n) (hm : s.row.length = m) : Calls Try.prog 15 #[.agg #[.slice A n c, .int .i64 s.ver, .int .i64 s.node, .slice B m d]] w (RMayOk s.may w) := by
  have HB := Lib.hid (nextA (Mem.start w) (.cells #[.slice A n c, .int .i64 s.ver, .int .i64 s.node, .slice B m d] 31))
  unfold Sh.may
  rw [hn, hm]
  obtain ⟨ver, hver⟩ : ∃ ver, s.ver = ver := ⟨_, rfl⟩
  obtain ⟨node, hnode⟩ : ∃ node, s.node = node := ⟨_, rfl⟩
  rw [hver, hnode] at HB ⊢
  clear hver hnode hn hm
  by_cases h1 : 1 ≤ n
  · have k1 : (1 : Int) ≤ (n : Int) := by omega
    by_cases h2 : n ≤ 64
    · have k2 : (n : Int) ≤ 64 := by omega
      by_cases h3 : 1 ≤ ver
      · have k3 : 0 < ver := by omega
        by_cases h4 : 0 ≤ node
        · by_cases h5 : node < 255
          · by_cases h6 : m ≤ 65536
            · have H := Lib.hid (show decide (1 ≤ n ∧ n ≤ 64 ∧ 1 ≤ ver ∧ 0 ≤ node ∧ node < 255 ∧ m ≤ 65536) = true from decide_eq_true ⟨h1, h2, h3, h4, h5, h6⟩)
              rw [H.out]
              have k6 : ((m : Int) ≤ 65536) = True := eq_true (by omega)
              clear h1 h2 h3 h6
              go_enter Try.func15, Try.ntmps15
              go_wp2_with fail
              go_ret
              exact ⟨rfl, HB.out⟩
            · rw [decide_eq_false (by omega)]
              have k6 : ((m : Int) ≤ 65536) = False := eq_false (by omega)
              clear h1 h2 h3 h6
              go_enter Try.func15, Try.ntmps15
              go_wp2_with fail
              go_ret
              exact ⟨rfl, HB.out⟩
          · rw [decide_eq_false (by omega)]
            clear h1 h2 h3
            go_enter Try.func15, Try.ntmps15
            go_wp2_with fail
            go_ret
            exact ⟨rfl, HB.out⟩
        · rw [decide_eq_false (by omega)]
          clear h1 h2 h3
          go_enter Try.func15, Try.ntmps15
          go_wp2_with fail
          go_ret
          exact ⟨rfl, HB.out⟩
      · rw [decide_eq_false (by omega)]
        have k3 : ¬ 0 < ver := by omega
        clear h1 h2 h3
        go_enter Try.func15, Try.ntmps15
        go_wp2_with fail
        go_ret
        exact ⟨rfl, HB.out⟩
    · rw [decide_eq_false (by omega)]
      have k2 : ¬ (n : Int) ≤ 64 := by omega
      clear h1 h2
      go_enter Try.func15, Try.ntmps15
      go_wp2_with fail
      go_ret
      exact ⟨rfl, HB.out⟩
  · rw [decide_eq_false (by omega)]
    have k1 : ¬ (1 : Int) ≤ (n : Int) := by omega
    clear h1
    go_enter Try.func15, Try.ntmps15
    go_wp2_with fail
    go_ret
    exact ⟨rfl, HB.out⟩
end Go.Proofs.Ytlmcmcafbepjmaa.ShW
