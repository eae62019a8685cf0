/- The keys of a map of uint64 keys, in whatever order they come. Nothing is claimed here of the program. -/
import Derived.Test.YtcckeabholabcaaK1
import Derived.RangeFuncGives
import Derived.Sort.MapsRangeIn
import Derived.Sort.KeysCollected
namespace Go.Proofs.Ytcckeabholabcaa
namespace A
open Go
open Go.Maps

abbrev gf : Int → Value := Value.int .u64
theorem zG {x y : Int} (h : gf x = gf y) : x = y := by simpa [gf] using h
theorem wL {P : Program} {k : TypeId} (hk : P.underlying k = some (.int .u64)) {key : Value} {kl : Lit} (h : keyOf P k key = some kl) : ∃ x : Int, key = gf x ∧ kl = .int .u64 x := by
  cases key <;> simp [keyOf, hk, mapKey] at h
  rename_i q a
  obtain ⟨⟨rfl, hw⟩, rfl⟩ := h
  exact ⟨a, rfl, rfl⟩
theorem xS {P : Program} {k : TypeId} (hk : P.underlying k = some (.int .u64)) {x : Int} (hw : (Lit.int .u64 x).wf = true) : keyOf P k (gf x) = some (.int .u64 x) := by
  simp [keyOf, hk, mapKey, hw]

/-- Values are not looked at. -/
def xT : Value → Option (DataW Unit × List MemPlace) := fun _ => some (.lit (.bool true), [])
def rX (ms : Array MapEntry) (xs : List Int) : Prop := ms.toList.map (·.key) = xs.map gf ∧ xs.Nodup ∧ ∀ x ∈ xs, (Lit.int .u64 x).wf = true

theorem uC : ∀ (l : List (Lit × DataW Unit)) (k : Lit), has (.map (l.foldr DataW.insert [])) k = l.any (fun p => p.1.sameKey k)
  | [], _ => rfl
  | x :: l, k => by
    show (DataW.insert x (l.foldr DataW.insert [])).any _ = _
    rw [any_insert]
    show (_ || has (.map (l.foldr DataW.insert [])) k) = _
    rw [uC l k]
    rfl
theorem uD (x : Lit × DataW Unit) : ∀ l : List (Lit × DataW Unit), (DataW.insert x l).length = l.length + 1
  | [] => rfl
  | y :: l => by
    unfold DataW.insert
    split
    · rfl
    · simp [uD x l]
theorem uE : ∀ (l : List (Lit × DataW Unit)), (l.foldr DataW.insert []).length = l.length
  | [] => rfl
  | x :: l => by
    show (DataW.insert x (l.foldr DataW.insert [])).length = _
    rw [uD, uE l]
    rfl

theorem GW {P : Program} {k : TypeId} (hk : P.underlying k = some (.int .u64)) {m : MapEntry} {x : Int} (hm : m.key = gf x) (hw : (Lit.int .u64 x).wf = true) : WideElems.rd P k xT m = some (.int .u64 x, .lit (.bool true)) := by
  unfold WideElems.rd
  rw [hm, xS hk hw]
  rfl

theorem BI {P : Program} {k : TypeId} (hk : P.underlying k = some (.int .u64)) : ∀ (ms : List MapEntry) (xs : List Int), ms.map (·.key) = xs.map gf → (∀ x ∈ xs, (Lit.int .u64 x).wf = true) →
    ms.map (WideElems.rg P k xT) = xs.map (fun x => (Lit.int .u64 x, DataW.lit (.bool true))) ∧ ∀ m ∈ ms, ∃ y, WideElems.rd P k xT m = some y
  | [], [], _, _ => ⟨rfl, by simp⟩
  | [], _ :: _, h, _ => by simp at h
  | _ :: _, [], h, _ => by simp at h
  | m :: ms, x :: xs, h, hw => by
    simp only [List.map_cons, List.cons.injEq] at h
    obtain ⟨h1, h2⟩ := BI hk ms xs h.2 (fun y hy => hw y (List.mem_cons_of_mem _ hy))
    have h3 := GW hk h.1 (hw x List.mem_cons_self)
    refine ⟨?_, fun m' hm' => ?_⟩
    · simp only [List.map_cons, h1, List.cons.injEq, and_true]
      unfold WideElems.rg
      rw [h3]
      rfl
    · rcases List.mem_cons.1 hm' with rfl | hm'
      · exact ⟨_, h3⟩
      · exact h2 m' hm'

theorem rj {P : Program} {k : TypeId} (hk : P.underlying k = some (.int .u64)) {w : World} {b : Nat} {ms : Array MapEntry} {clock : Nat} (hb : w.heap[b]? = some (.map ms clock)) (hB : nX ms clock) (hs : ms.size ≤ maxLen) {xs : List Int} (hx : rX ms xs) :
    ∃ D0 : DataW Unit, w.ownsMap P k xT b ms.size D0 ∧ Maps.size D0 = xs.length ∧ ∀ y, has D0 (.int .u64 y) = true ↔ y ∈ xs := by
  obtain ⟨h1, h2, h3⟩ := hx
  obtain ⟨h4, h5⟩ := BI hk ms.toList xs h1 h3
  refine ⟨_, ⟨ms, clock, hb, ⟨hs, ⟨hB.1, hB.2, ?_⟩, h5⟩, Nat.le_refl _, rfl⟩, ?_, fun y => ?_⟩
  · rw [h1]
    exact List.pairwise_map.2 (h2.imp fun {a c} hne e => hne (zG e))
  · rw [h4]
    show (List.foldr DataW.insert ([] : List (Lit × DataW Unit)) _).length = _
    rw [uE]
    simp
  · rw [h4, uC, List.any_eq_true]
    constructor
    · rintro ⟨p, hp, hs⟩
      obtain ⟨x, hx, rfl⟩ := List.mem_map.1 hp
      have : x = y := by simpa [Lit.sameKey] using hs
      exact this ▸ hx
    · intro hy
      exact ⟨_, List.mem_map.2 ⟨y, hy, rfl⟩, by simp [Lit.sameKey]⟩

/-- What has come so far. -/
def pU (D0 : DataW Unit) (left : Lit → Bool) (ss : List Int) : Prop := ss.Nodup ∧ ∀ x, x ∈ ss ↔ (has D0 (.int .u64 x) = true ∧ left (.int .u64 x) = false)
theorem pU.start (D0 : DataW Unit) : pU D0 (has D0) [] := ⟨List.nodup_nil, fun x => by cases has D0 (.int .u64 x) <;> simp⟩
theorem pU.step {D0 : DataW Unit} {left : Lit → Bool} {ss : List Int} (h : pU D0 left ss) {x : Int} {y : DataW Unit} (hlk : left (.int .u64 x) = true) (hat : ∀ zd, D0.atKey (.int .u64 x) zd = y) :
    pU D0 (fun z => left z && !z.sameKey (.int .u64 x)) (ss ++ [x]) := by
  have hhas : has D0 (.int .u64 x) = true := has_true_of_atKey hat
  have hnew : x ∉ ss := fun hx => by have := ((h.2 x).1 hx).2; rw [hlk] at this; cases this
  refine ⟨List.nodup_append.2 ⟨h.1, by simp, fun a ha b hb => by simp at hb; subst hb; exact fun e => hnew (e ▸ ha)⟩, fun y => ?_⟩
  by_cases hy : y = x
  · subst hy; simp [hhas, Lit.sameKey]
  · simp [h.2 y, hy, Lit.sameKey]
theorem pU.perm {D0 : DataW Unit} {left : Lit → Bool} {ss xs : List Int} (h : pU D0 left ss) (hx : ∀ y, has D0 (.int .u64 y) = true ↔ y ∈ xs) (hn : xs.Nodup) (hl : ∀ kl, left kl = false) : ss.Perm xs :=
  (List.perm_ext_iff_of_nodup h.1 hn).2 fun x => by rw [h.2 x, hl, hx]; simp

end A
end Go.Proofs.Ytcckeabholabcaa
