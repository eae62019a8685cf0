/- A candidate with a fence behind each event. Plain lists, no program in sight. -/
import Derived.Test.YtigcbjbaibcgfaaF2
namespace Go.Proofs.Ytigcbjbaibcgfaa
open Go A

theorem twice_ (n : Nat) (l : List Int) (hl : l.length ≤ 100) (hn : 200 ≤ n) : T (law_twice n l) (fun r => r.length = l.length) := by
  unfold law_twice
  refine T.bind (P := fun r => r.length = l.length) ?_ (fun r hr => T.ret hr)
  refine T.loop l.length (fun i s => s.1.length = i ∧ s.2 = (i : Int)) _ ?_ ⟨rfl, rfl⟩ (by omega)
  rintro i ⟨s1, s2⟩ hi ⟨e1, e2⟩
  dsimp only at e1 e2
  subst e2
  unfold law_twice_L1
  refine T.ite (fun cd => ?_) (fun cd => T.fin ?_)
  · have hil := lt_of cd
    refine T.get i rfl hil ?_
    refine T.grd (ble_of (by dsimp only; omega)) ?_
    exact T.ret ⟨hil, by dsimp only; rw [List.length_append, e1]; rfl, addN1 _ (by omega)⟩
  · have := ge_of cd
    dsimp only
    omega
/-- Each event, and a fence behind it. -/
structure DP (l m : List Event) : Prop where
  len : m.length = 2 * l.length
  ev : ∀ (i : Nat) (hi : i < l.length) (h1 : 2 * i < m.length) (h2 : 2 * i + 1 < m.length), m[2 * i].Hart = l[i].Hart ∧ m[2 * i].Kind = l[i].Kind ∧ full m[2 * i + 1]
theorem DP.nil : DP [] [] := ⟨rfl, fun i hi => by simp at hi⟩
theorem DP.app {l m l' m' : List Event} (h : DP l m) (k : DP l' m') : DP (l ++ l') (m ++ m') := by
  have hl := h.len
  have kl := k.len
  refine ⟨by rw [List.length_append, List.length_append, hl, kl]; omega, fun i hi h1 h2 => ?_⟩
  rw [List.length_append] at hi h1 h2
  by_cases c : i < l.length
  · rw [List.getElem_append_left (by omega), List.getElem_append_left (by omega), List.getElem_append_left (by omega)]
    exact h.ev i c (by omega) (by omega)
  · have e := k.ev (i - l.length) (by omega) (by omega) (by omega)
    have e1 : m'[2 * (i - l.length)]'(by omega) = m'[2 * i - m.length]'(by omega) := by congr 1; omega
    have e2 : m'[2 * (i - l.length) + 1]'(by omega) = m'[2 * i + 1 - m.length]'(by omega) := by congr 1; omega
    rw [e1, e2] at e
    rw [List.getElem_append_right (by omega), List.getElem_append_right (by omega), List.getElem_append_right (by omega)]
    exact e
theorem DP.two {e x y : Event} (h1 : x.Hart = e.Hart) (h2 : x.Kind = e.Kind) (h3 : full y) : DP [e] [x, y] :=
  ⟨rfl, fun i hi _ _ => by
    have : i = 0 := by simp at hi; omega
    subst this
    exact ⟨h1, h2, h3⟩⟩
theorem row_len {c : Cand} (i : Nat) (hi : i < c.Harts.length) : c.Harts[i].length ≤ c.Harts.flatten.length := by
  have := FL_row (l := c.Harts) hi
  omega
theorem spread_ (n : Nat) (c : Cand) (hc : Light c) (hN : c.Harts.flatten.length ≤ 30) (hF : c.From.length ≤ 30) (hn : 200 ≤ n) : T (law_spread n c) (fun d => DP c.Harts.flatten d.Harts.flatten ∧ Light d) := by
  have hh := hc.harts
  have hfi := hc.first
  have hor := hc.order
  unfold law_spread
  refine T.eqb (a := c.First) (by unfold kit_Own_Cell; rw [grd_pos (ble_of (by omega))]) ?_
  refine T.bind (P := fun r => DP c.Harts.flatten r.flatten ∧ r.length = c.Harts.length ∧ ∀ l ∈ r, smalls l) ?_ ?_
  · refine T.loop c.Harts.length (fun i (s : List (List Event) × Int) => DP (FL c.Harts i) s.1.flatten ∧ s.1.length = i ∧ (∀ l ∈ s.1, smalls l) ∧ s.2 = (i : Int)) _ ?_ ⟨by simpa [FL_zero] using DP.nil, rfl, fun l h => by simp at h, rfl⟩ (by omega)
    rintro i ⟨hs, s2⟩ hi ⟨e1, e2, e3, e4⟩
    dsimp only at e1 e2 e3 e4
    subst e4
    unfold law_spread_L1
    refine T.ite (fun cd => ?_) (fun cd => ?_)
    case _ =>
      have hil := lt_of cd
      have hrow := hc.rows _ (List.getElem_mem hil)
      have hrl := row_len i hil
      refine T.bind (P := fun r => r.1 = hs ∧ r.2.1 = (i : Int) ∧ DP c.Harts[i] r.2.2 ∧ ∀ e ∈ r.2.2, small e) ?_ ?_
      · refine T.loop c.Harts[i].length (fun k s => s.1 = hs ∧ DP (c.Harts[i].take k) s.2.1 ∧ (∀ e ∈ s.2.1, small e) ∧ s.2.2 = ((i : Int), (k : Int))) _ ?_ ⟨rfl, by simpa using DP.nil, fun e h => by simp at h, rfl⟩ (by omega)
        rintro k ⟨s1, row, s3⟩ hk ⟨g1, g2, g3, g4⟩
        dsimp only at g1 g2 g3 g4
        subst g1 g4
        unfold law_spread_L2
        refine T.get i rfl hil ?_
        refine T.ite (fun cd => ?_) (fun cd => T.fin ⟨rfl, rfl, by rw [List.take_of_length_le (ge_of cd)] at g2; exact g2, g3⟩)
        have hkl := lt_of cd
        have hsm := hrow.2 _ (List.getElem_mem hkl)
        have hsm' := hsm
        unfold small at hsm'
        refine T.get k rfl hkl ?_
        refine T.eqb (ownEvent_ n _ hsm) ?_
        refine T.bind (twice_ n _ (by omega) hn) (fun d1 h1 => ?_)
        refine T.bind (twice_ n _ (by omega) hn) (fun d2 h2 => ?_)
        refine T.bind (twice_ n _ (by omega) hn) (fun d3 h3 => ?_)
        have hlen := g2.len
        rw [List.length_take] at hlen
        dsimp only
        refine T.grd (ble_of (by omega)) ?_
        refine T.ret ⟨hkl, rfl, ?_, fun e he => ?_, by dsimp only; rw [addN1 _ (by omega)]⟩
        · dsimp only
          rw [List.take_succ_eq_append_getElem hkl]
          exact g2.app (DP.two rfl rfl ⟨rfl, rfl, rfl⟩)
        · dsimp only at he
          rcases List.mem_append.1 he with he | he
          · exact g3 e he
          · rcases List.mem_cons.1 he with rfl | he
            · unfold small
              dsimp only
              omega
            · have he := List.mem_singleton.1 he
              subst he
              unfold small
              simp
      · rintro ⟨r1, r2, r3⟩ ⟨g1, g2, g3, g4⟩
        dsimp only at g1 g2 g3 g4
        subst g1 g2
        have hlen := g3.len
        refine T.grd (ble_of (by dsimp only; omega)) ?_
        refine T.ret ⟨hil, ?_, by dsimp only; rw [List.length_append, e2]; rfl, fun l hl => ?_, addN1 _ (by omega)⟩
        · dsimp only
          rw [FL_succ hil, List.flatten_append]
          have : ([r3] : List (List Event)).flatten = r3 := by simp
          rw [this]
          exact e1.app g3
        · dsimp only at hl
          rcases List.mem_append.1 hl with hl | hl
          · exact e3 l hl
          · have hl := List.mem_singleton.1 hl
            subst hl
            exact ⟨by omega, g4⟩
    case _ =>
      have := ge_of cd
      refine T.fin ⟨?_, by dsimp only; omega, e3⟩
      rw [FL_all _ this] at e1
      exact e1
  rintro hs ⟨g1, g2, g3⟩
  refine T.bind (P := fun r => r.length = 2 * c.From.length) ?_ ?_
  · refine T.loop c.From.length (fun i s => s.1.length = 2 * i ∧ s.2 = (i : Int)) _ ?_ ⟨rfl, rfl⟩ (by omega)
    rintro i ⟨s1, s2⟩ hi ⟨e1, e2⟩
    dsimp only at e1 e2
    subst e2
    unfold law_spread_L3
    refine T.ite (fun cd => ?_) (fun cd => T.fin ?_)
    · have hil := lt_of cd
      refine T.get i rfl hil ?_
      refine T.ite (fun _ => ?_) (fun _ => ?_)
      · refine T.grd (ble_of (by dsimp only; omega)) ?_
        exact T.ret ⟨hil, by dsimp only; rw [List.length_append, e1]; simp; omega, addN1 _ (by omega)⟩
      · refine T.grd (ble_of (by dsimp only; omega)) ?_
        exact T.ret ⟨hil, by dsimp only; rw [List.length_append, e1]; simp; omega, addN1 _ (by omega)⟩
    · have := ge_of cd
      dsimp only
      omega
  intro fr hfr
  refine T.bind (twice_ n _ (by omega) hn) (fun od hod => ?_)
  have hlen := g1.len
  exact T.ret ⟨g1, ⟨by dsimp only; omega, by dsimp only; omega, hfi, by dsimp only; omega, by dsimp only; omega, g3⟩⟩
end Go.Proofs.Ytigcbjbaibcgfaa
