/- Package-level tables, read: what a condition on them gives the evaluator. Nothing is claimed here of the program. -/
import Derived.Test.YtnmmknnnggcijaaDoorK6
import Derived.LaidMore
import Derived.MakeChecks
import Derived.FnData
import Derived.OpenShut
import Derived.ChangeArms
namespace Go.Proofs.YtnmmknnnggcijaaDoor
namespace A
open Go
open Go.ChangeShapes Go.WideShapes Go.RowKit

theorem yR {P : Program} {w : World} : ∀ {l : List (String × DataW Unit)} {ps : List MemPlace}, DataW.LaidVars P w l ps → ∀ n d, (n, d) ∈ l →
    ∃ g t cs fuel p, P.globalNamed n = some g ∧ (P.globals[g]?).map (·.type) = some t ∧ w.var? P n = some cs ∧ DataW.trod (fun _ => ()) P w 0 (fun _ => true) false fuel t cs.toList = some (d, p)
  | [], _, _, _, _, h => by cases h
  | (n, d) :: r, ps, h, n', d', hm => by
    obtain ⟨g, t, cs, fuel, p, q, h1, h2, h3, h4, h5, _⟩ := h
    rcases List.mem_cons.1 hm with e | e
    · cases e; exact ⟨g, t, cs, fuel, p, h1, h2, h3, h4⟩
    · exact yR h5 n' d' e

theorem z4 {P : Program} {W : World} {laid : List (String × DataW Unit)} (h : laidMet P laid W) {name : String} {g t n e : Nat} {k : IntKind} {ns : List Int}
    (hm : (name, DataW.agg (ns.map fun n => .lit (.int k n))) ∈ laid) (hg : P.globalNamed name = some g) (ht : (P.globals[g]?).map (·.type) = some t)
    (hu : P.underlying t = some (.array n e)) (he : P.underlying e = some (.int k)) (hc : P.cellsOf e = 1) (hct : P.cellsOf t = n) (hne : 0 < ns.length) :
    VR (pR W) (.fptr (mc k ns) 0) (.pointer (some ⟨g, 0, none⟩)) ∧ cO W.heap g (mc k ns).length = none := by
  obtain ⟨ps, hl, _⟩ := h
  obtain ⟨g', t', cs, fuel, p, h1, h2, h3, h4⟩ := yR hl _ _ hm
  obtain rfl := Option.some.inj (hg.symm.trans h1)
  obtain rfl := Option.some.inj (ht.symm.trans h2)
  obtain ⟨xs, m, rfl, hx, hlen, hn, hel⟩ := DataW.trod_array hu h4
  simp only [Prod.mk.injEq, DataW.agg.injEq] at hx
  have hnl : ns.length = n := by
    have := congrArg List.length hx.1
    simp at this
    omega
  have hcl : cs.toList.length = n := hlen.trans hct
  have key : ∀ i (hi : i < n), ∃ z, cs.toList[i]? = some (.int k z) ∧ ns[i]? = some z := by
    intro i hi
    have h5 := hel i hi
    rw [hc] at h5
    obtain ⟨x, hx1⟩ : ∃ x, xs[i]? = some x := ⟨xs[i]'(by omega), List.getElem?_eq_getElem (by omega)⟩
    rw [hx1] at h5
    obtain ⟨z, e1, e2, _⟩ := DataW.trod_int he h5
    refine ⟨z, ?_, ?_⟩
    · have e3 := congrArg (fun l => l[0]?) e1
      simp only [Nat.mul_one, List.getElem?_take, List.getElem?_drop] at e3
      simpa using e3
    · have e3 := congrArg (fun l => l[i]?) hx.1
      simp only [List.getElem?_map, hx1, Option.map_some, e2] at e3
      cases hni : ns[i]? with
      | none => rw [hni] at e3; cases e3
      | some y => rw [hni] at e3; simp at e3; rw [e3]
  have hcell : ∀ i u, cs.toList[i]? = some u → g < W.heap.size ∧ cO W.heap g i = some u := by
    intro i u hu'
    have h6 := World.var?_cell hg h3 i
    rw [Array.getElem?_toList] at hu'
    rw [hu'] at h6
    obtain ⟨_, h7, h8⟩ := lF h6
    exact ⟨h7, h8⟩
  have hlt : g < W.heap.size := by
    obtain ⟨z, hz, _⟩ := key 0 (by omega)
    exact (hcell 0 _ hz).1
  refine ⟨?_, ?_⟩
  · refine .fptr 0 cs.toList (by rw [hcl]; simp [mc, hnl]) (fun i c u h7 h8 => ?_) hlt (fun i u h7 => by rw [Nat.zero_add]; exact (hcell i u h7).2)
    have hi : i < n := by rw [← hcl]; exact (List.getElem?_eq_some_iff.1 h8).1
    obtain ⟨z, hz1, hz2⟩ := key i hi
    unfold mc at h7
    rw [List.getElem?_map, hz2] at h7
    cases h7
    rw [hz1] at h8
    cases h8
    exact .v _ _ rfl
  · have h9 := h3
    unfold World.var? at h9
    rw [hg] at h9
    simp only [Option.bind_some] at h9
    unfold cO
    split at h9
    · rename_i hh
      cases h9
      rw [hh]
      show cs[_]? = none
      rw [Array.getElem?_eq_none]
      rw [← Array.length_toList, hcl]
      simp [mc, hnl]
    · cases h9

end A
end Go.Proofs.YtnmmknnnggcijaaDoor
