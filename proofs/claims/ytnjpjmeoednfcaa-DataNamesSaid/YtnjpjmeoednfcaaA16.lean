/- New boxes and objects. -/
import Derived.Test.YtnjpjmeoednfcaaA15
namespace Go.Proofs.Ytnjpjmeoednfcaa
namespace A
open Go
open Go.RowKit (Below)

theorem ObR.mono2 {E E' : Env} {x : Option Ob} {mv : Option MV} (h : ObR E x mv) (hf : LE E.fz E'.fz) (hb : LE E.ob E'.ob) (hh : ∀ b o s n, mv = some (.blk b o s n) → E'.h[b]? = E.h[b]?) : ObR E' x mv := by
  revert h
  cases x with
  | none => cases mv <;> exact fun h => h
  | some ob =>
    cases ob with
    | dead => cases mv <;> exact fun h => h
    | arr fl sz' rows =>
      cases mv with
      | none => exact fun h => h
      | some mv =>
        cases mv with
        | virt => exact fun h => h
        | blk b o s n =>
          rintro ⟨h1, h2, h3, us, ty, h4, h5, h6⟩
          refine ⟨h1, h2, h3, us, ty, (hh _ _ _ _ rfl).trans h4, h5, fun m c hc => ?_⟩
          obtain ⟨u, hu, hv⟩ := h6 m c hc
          refine ⟨u, hu, ?_⟩
          cases fl with
          | true => exact hv.mono hf
          | false => exact hv.mono hb
    | mapo fl es =>
      cases mv with
      | none => exact fun h => h
      | some mv =>
        cases mv with
        | virt => exact fun h => h
        | blk b o s n =>
          rintro ⟨ms, clock, h1, h2, h3⟩
          refine ⟨ms, clock, (hh _ _ _ _ rfl).trans h1, h2, fun i e m h4 h5 => ?_⟩
          obtain ⟨h6, h7⟩ := h3 i e m h4 h5
          refine ⟨h6, ?_⟩
          cases fl with
          | true => exact h7.mono hf
          | false => exact h7.mono hb

theorem ObR.mono {E E' : Env} {x : Option Ob} {mv : Option MV} (h : ObR E x mv) (hle : LE E E') (hh : ∀ b o s n, mv = some (.blk b o s n) → E'.h[b]? = E.h[b]?) : ObR E' x mv := h.mono2 hle.fz hle.ob hh

/-- One key more. -/
def addMu (mu : Key → Option MV) (key : Key) (mv : MV) : Key → Option MV := fun k => if k = key then some mv else mu k

section
variable {G : Gh} {p : Nat → Option (List AV)} {E : Env} {M : St} {w : World} {P : Program}

theorem addMu_le {key : Key} {mv : MV} (hkey : E.mu key = none) : LE E ⟨E.F, addMu E.mu key mv, E.h⟩ :=
  ⟨fun _ h => h, fun k x h => by
    show (if k = key then some mv else E.mu k) = some x
    rw [if_neg (fun e => by subst e; rw [hkey] at h; cases h)]
    exact h, fun _ _ => rfl, fun _ _ _ _ _ _ => rfl⟩

theorem SimM.addkey (hM : SimM G p E M w) {key : Key} {mv : MV} (hkey : E.mu key = none) (hmv : ∀ b o s n, mv = .blk b o s n → ¬ E.F b ∧ b < w.heap.size ∧ (G.M b ∨ G.w0.heap.size ≤ b) ∧ ∀ k o' s' n', E.mu k ≠ some (.blk b o' s' n'))
    {M' : St} (hl : ∀ d, key ≠ .L d → lookL M'.l d = lookL M.l d) (ho : ∀ id, key ≠ .O id → M'.o[id]? = M.o[id]?) (hbb : M'.b = M.b) (hlen : M.b ≤ M'.o.length) (hkb : ∀ id, key = .O id → M.b ≤ id)
    (hL : ∀ d, key = .L d → LocR p ⟨E.F, addMu E.mu key mv, E.h⟩ (lookL M'.l d) d) (hO : ∀ id, key = .O id → ObR ⟨E.F, addMu E.mu key mv, E.h⟩ M'.o[id]? (some mv)) :
    SimM G p ⟨E.F, addMu E.mu key mv, E.h⟩ M' w := by
  have hle : LE E ⟨E.F, addMu E.mu key mv, E.h⟩ := addMu_le hkey
  have hne : ∀ {k : Key} {x : MV}, addMu E.mu key mv k = some x → (k = key ∧ x = mv) ∨ (k ≠ key ∧ E.mu k = some x) := by
    intro k x h
    unfold addMu at h
    by_cases hk : k = key
    · rw [if_pos hk] at h; cases h; exact .inl ⟨hk, rfl⟩
    · rw [if_neg hk] at h; exact .inr ⟨hk, h⟩
  refine ⟨hM.hp, hM.os, hM.tape, hM.output, hM.size, hM.keep, hM.F0, hM.Flt, hM.Fnew, fun k b o s n h => ?_, fun k k' b o s n o' s' n' h h' => ?_, fun d => ?_, fun id => ?_, fun id hid => ?_, by rw [hbb]; exact hlen, hM.szs⟩
  · rcases hne h with ⟨_, e⟩ | ⟨_, h⟩
    · obtain ⟨h1, h2, h3, _⟩ := hmv _ _ _ _ e.symm
      exact ⟨h1, h2, h3⟩
    · exact hM.own k b o s n h
  · rcases hne h with ⟨e1, e2⟩ | ⟨_, h⟩
    · rcases hne h' with ⟨e3, e4⟩ | ⟨_, h'⟩
      · rw [e1, e3]
      · exact absurd h' ((hmv _ _ _ _ e2.symm).2.2.2 _ _ _ _)
    · rcases hne h' with ⟨e3, e4⟩ | ⟨_, h'⟩
      · exact absurd h ((hmv _ _ _ _ e4.symm).2.2.2 _ _ _ _)
      · exact hM.inj _ _ _ _ _ _ _ _ _ h h'
  · by_cases hd : key = .L d
    · exact hL d hd
    · rw [hl d hd]
      have hmu : addMu E.mu key mv (.L d) = E.mu (.L d) := by unfold addMu; rw [if_neg (fun e => hd e.symm)]
      have := hM.loc d
      revert this
      cases lookL M.l d with
      | none => exact fun h => hmu.trans h
      | some row =>
        rintro (⟨b', h1, h2⟩ | ⟨h1, h2⟩)
        · exact .inl ⟨b', hmu.trans h1, h2.mono hle⟩
        · exact .inr ⟨hmu.trans h1, h2⟩
  · by_cases hd : key = .O id
    · have := hO id hd
      show ObR _ _ (addMu E.mu key mv (.O id))
      unfold addMu
      rw [if_pos hd.symm]
      exact this
    · rw [ho id hd]
      show ObR _ _ (addMu E.mu key mv (.O id))
      have hmu : addMu E.mu key mv (.O id) = E.mu (.O id) := by unfold addMu; rw [if_neg (fun e => hd e.symm)]
      rw [hmu]
      exact (hM.obj id).mono hle (fun _ _ _ _ _ => rfl)
  · rw [hbb] at hid
    have hd : key ≠ .O id := fun e => by have := hkb id e; omega
    rw [ho id hd]
    have hmu : addMu E.mu key mv (.O id) = E.mu (.O id) := by unfold addMu; rw [if_neg (fun e => hd e.symm)]
    show _ ∨ addMu E.mu key mv (.O id) = _
    rw [hmu]
    exact hM.old id hid

theorem below_push (w : World) (ob : Obj) : Below w.heap.size w { w with heap := w.heap.push ob } :=
  ⟨rfl, rfl, rfl, by simp, fun k hk => by show (w.heap.push ob)[k]? = _; rw [Array.getElem?_push, if_neg (by omega)]⟩
theorem push_get (w : World) (ob : Obj) : (w.heap.push ob)[w.heap.size]? = some ob := by simp

/-- A new block for a key. -/
theorem SimM.newkey (hM : SimM G p E M w) {ob : Obj} {key : Key} {sz n : Nat} (hkey : E.mu key = none)
    {M' : St} (hl : ∀ d, key ≠ .L d → lookL M'.l d = lookL M.l d) (ho : ∀ id, key ≠ .O id → M'.o[id]? = M.o[id]?) (hbb : M'.b = M.b) (hlen : M.b ≤ M'.o.length) (hkb : ∀ id, key = .O id → M.b ≤ id)
    (hL : ∀ d, key = .L d → LE E ⟨E.F, addMu E.mu key (.blk w.heap.size 0 sz n), w.heap.push ob⟩ → LocR p ⟨E.F, addMu E.mu key (.blk w.heap.size 0 sz n), w.heap.push ob⟩ (lookL M'.l d) d)
    (hO : ∀ id, key = .O id → LE E ⟨E.F, addMu E.mu key (.blk w.heap.size 0 sz n), w.heap.push ob⟩ → ObR ⟨E.F, addMu E.mu key (.blk w.heap.size 0 sz n), w.heap.push ob⟩ M'.o[id]? (some (.blk w.heap.size 0 sz n))) :
    LE E ⟨E.F, addMu E.mu key (.blk w.heap.size 0 sz n), w.heap.push ob⟩ ∧ SimM G p ⟨E.F, addMu E.mu key (.blk w.heap.size 0 sz n), w.heap.push ob⟩ M' { w with heap := w.heap.push ob } := by
  obtain ⟨hle1, hS1⟩ := hM.below (F' := E.F) (below_push w ob) (fun _ h => h) (fun b h => by have := hM.Flt b h; simp; omega) (fun b h _ => h)
  have hle : LE E ⟨E.F, addMu E.mu key (.blk w.heap.size 0 sz n), w.heap.push ob⟩ := hle1.trans (addMu_le (E := ⟨E.F, E.mu, w.heap.push ob⟩) hkey)
  refine ⟨hle, hS1.addkey (key := key) (mv := .blk w.heap.size 0 sz n) hkey (fun b o s n' e => ?_) hl ho hbb hlen hkb (fun d e => hL d e hle) (fun id e => hO id e hle)⟩
  cases e
  refine ⟨fun h => ?_, by simp, .inr hM.size, fun k o' s' n'' h => ?_⟩
  · have := hM.Flt _ h
    omega
  · have := (hM.own _ _ _ _ _ h).2.1
    omega
end

end A
end Go.Proofs.Ytnjpjmeoednfcaa
