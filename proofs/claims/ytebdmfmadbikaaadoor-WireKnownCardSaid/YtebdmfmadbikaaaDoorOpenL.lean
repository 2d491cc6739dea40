/- What the laid table gives. -/
import Derived.Test.YtebdmfmadbikaaaDoorOpenW
import Derived.LaidMore
import Derived.Stop.Joined
namespace Go.Proofs.YtebdmfmadbikaaaDoor.Open
open Go.ChangeShapes Go.WideShapes Go.ChangeAt Go.WideElems Go.RowKit Mem Wi WiW

theorem gHas : Tryd.prog.globalNamed "starfish/wire.has" = some 0 := by kernel_rfl
theorem tHas : (Tryd.prog.globals[0]?).map (·.type) = some 114 := by kernel_rfl
set_option maxRecDepth 100000 in
theorem of_laid {W : World} (h : laidMetH Tryd.prog [("starfish/wire.has", Rows.laid_starfish_wire_has)] W) : HasT W := by
  rw [MakeChecks.laidMetH_plain _ _ _ (by kernel_rfl)] at h
  obtain ⟨ps, ⟨g0, t0, cs0, f0, p0, q0, hg0, ht0, hv0, hd0, _, _⟩, _, _⟩ := h
  obtain rfl := Option.some.inj (gHas.symm.trans hg0)
  obtain rfl := Option.some.inj (tHas.symm.trans ht0)
  obtain ⟨xs, m1, _, hx1, hlen, hn3, hel⟩ := DataW.trod_array Tryd.underlying114 hd0
  have hL : (Rows.laid_starfish_wire_has : DataW Unit) = .agg ((List.range 21).map fun k => .lit (.int .u16 ((mask k : Nat) : Int))) := by rfl
  rw [hL] at hx1
  simp only [Prod.mk.injEq, DataW.agg.injEq] at hx1
  have c64 : Tryd.prog.cellsOf 64 = 1 := by kernel_rfl
  intro k hk
  have hk1 := hel k hk
  rw [c64] at hk1
  have hkx : k < xs.length := by omega
  rw [List.getElem?_eq_getElem hkx] at hk1
  obtain ⟨n, e1, e2, _⟩ := DataW.trod_int Tryd.underlying64 hk1
  have hm : (xs.map (·.1))[k]? = some (.lit (.int .u16 n)) := by rw [List.getElem?_map, List.getElem?_eq_getElem hkx, e2]; rfl
  rw [← hx1.1, List.getElem?_map, List.getElem?_range hk] at hm
  simp only [Option.map_some, Option.some.injEq, DataW.lit.injEq, Lit.int.injEq, true_and] at hm
  subst hm
  have hcell := World.var?_cell hg0 hv0 k
  rw [hcell]
  have e3 : (cs0.toList.drop k)[0]? = some (.int .u16 ((mask k : Nat) : Int)) := by
    rw [Nat.mul_one] at e1
    have := congrArg (·[0]?) e1
    simpa [List.getElem?_take] using this
  rw [List.getElem?_drop, Nat.add_zero, Array.getElem?_toList] at e3
  exact e3
end Go.Proofs.YtebdmfmadbikaaaDoor.Open
