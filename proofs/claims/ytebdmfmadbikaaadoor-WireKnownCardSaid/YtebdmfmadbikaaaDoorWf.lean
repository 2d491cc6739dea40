/- What a message that may be has. Plain. -/
import Derived.Test.YtebdmfmadbikaaaDoorWm
namespace Go.Proofs.YtebdmfmadbikaaaDoor.Wi
open Fds
/-- What a message that may be has. -/
structure MayF (m : Msg) : Prop where
  kind : 1 ≤ m.kind ∧ m.kind ≤ 20
  bare : m = keep m (flds m.kind)
  frm : 0 ≤ m.frm ∧ m.frm ≤ 65535
  to_ : 0 ≤ m.to_ ∧ m.to_ ≤ 65535
  code : 0 ≤ m.code ∧ m.code ≤ 65535
  req : 0 ≤ m.req ∧ m.req ≤ 4611686018427387904
  ver : 0 ≤ m.ver ∧ m.ver ≤ 4611686018427387904
  inc : 0 ≤ m.inc ∧ m.inc ≤ 4611686018427387904
  size : 0 ≤ m.size ∧ m.size ≤ 2147483647
  node : 0 ≤ m.node ∧ m.node ≤ 254
  key : m.key.length ≤ 64
  ids : m.ids.length ≤ 64
  nodes : m.nodes.length ≤ 255
  data : m.data.length ≤ 65536
  id : ∀ x ∈ m.ids, x.1.length ≤ 64 ∧ 0 ≤ x.2 ∧ x.2 ≤ 4611686018427387904
  nd : ∀ n ∈ m.nodes, 0 ≤ n ∧ n ≤ 254
/-- What a message has whose bytes are told: all that, but that it has no more than its kind. -/
structure MayB (m : Msg) : Prop where
  kind : 1 ≤ m.kind ∧ m.kind ≤ 20
  frm : 0 ≤ m.frm ∧ m.frm ≤ 65535
  to_ : 0 ≤ m.to_ ∧ m.to_ ≤ 65535
  code : 0 ≤ m.code ∧ m.code ≤ 65535
  req : 0 ≤ m.req ∧ m.req ≤ 4611686018427387904
  ver : 0 ≤ m.ver ∧ m.ver ≤ 4611686018427387904
  inc : 0 ≤ m.inc ∧ m.inc ≤ 4611686018427387904
  size : 0 ≤ m.size ∧ m.size ≤ 2147483647
  node : 0 ≤ m.node ∧ m.node ≤ 254
  key : m.key.length ≤ 64
  ids : m.ids.length ≤ 64
  nodes : m.nodes.length ≤ 255
  data : m.data.length ≤ 65536
  id : ∀ x ∈ m.ids, x.1.length ≤ 64 ∧ 0 ≤ x.2 ∧ x.2 ≤ 4611686018427387904
  nd : ∀ n ∈ m.nodes, 0 ≤ n ∧ n ≤ 254
theorem MayF.b {m : Msg} (h : MayF m) : MayB m := ⟨h.kind, h.frm, h.to_, h.code, h.req, h.ver, h.inc, h.size, h.node, h.key, h.ids, h.nodes, h.data, h.id, h.nd⟩
theorem may_iff (m : Msg) : may m = true ↔ MayF m := by
  unfold may
  simp only [Bool.and_eq_true, wi, isK, decide_eq_true_eq, same_iff, List.all_eq_true, idOk]
  simp only [long]
  constructor
  · rintro ⟨⟨⟨⟨⟨⟨⟨⟨⟨⟨⟨h1, h2⟩, ⟨h3, h4⟩, h5⟩, ⟨h6, h7⟩, h8⟩, h9⟩, h10⟩, h11⟩, h12⟩, h13⟩, h14⟩, h15⟩, h16⟩
    exact ⟨h1, h2, h3, h4, h5, h6, h7, h8, h9, h10, h11, h12, h13, h14, h15, h16⟩
  · rintro ⟨h1, h2, h3, h4, h5, h6, h7, h8, h9, h10, h11, h12, h13, h14, h15, h16⟩
    exact ⟨⟨⟨⟨⟨⟨⟨⟨⟨⟨⟨h1, h2⟩, ⟨h3, h4⟩, h5⟩, ⟨h6, h7⟩, h8⟩, h9⟩, h10⟩, h11⟩, h12⟩, h13⟩, h14⟩, h15⟩, h16⟩
end Go.Proofs.YtebdmfmadbikaaaDoor.Wi
