/- The view of a candidate that may be. Plain lists, no program in sight. -/
import Derived.Test.YtigcbjbaibcgfaaE7
namespace Go.Proofs.Ytigcbjbaibcgfaa
open Go A

theorem ris_mem : ∀ (l : List Int) (a : Int), risB a l = true → ∀ x ∈ l, a < x
  | [], _, _, _, h => by simp at h
  | y :: l, a, h, x, hx => by
    unfold risB at h
    simp only [Bool.and_eq_true, decide_eq_true_eq] at h
    rcases List.mem_cons.1 hx with rfl | hx
    · exact h.1
    · have := ris_mem l y h.2 x hx
      omega
theorem ris_last : ∀ (l : List Int) (a : Int), risB a l = true → ∀ x ∈ l, ∀ z, l.getLast? = some z → x ≤ z
  | [], _, _, _, h, _, _ => by simp at h
  | [y], a, h, x, hx, z, hz => by simp at hx hz; omega
  | y :: w :: l, a, h, x, hx, z, hz => by
    have h' := h
    unfold risB at h
    simp only [Bool.and_eq_true, decide_eq_true_eq] at h
    have hz' : (w :: l).getLast? = some z := by rw [List.getLast?_cons_cons] at hz; exact hz
    rcases List.mem_cons.1 hx with rfl | hx
    · have h1 := ris_mem _ _ h.2 w (by simp)
      have h2 := ris_last (w :: l) x h.2 w (by simp) z hz'
      omega
    · exact ris_last (w :: l) y h.2 x hx z hz'
theorem bel_mem {l : List Int} {a : Int} (h : belB l a = true) : ∀ x ∈ l, 0 ≤ x ∧ x < a := by
  intro x hx
  unfold belB at h
  simp only [Bool.and_eq_true] at h
  refine ⟨by have := ris_mem l (-1) h.1 x hx; omega, ?_⟩
  cases hg : l.getLast? with
  | none => rw [List.getLast?_eq_none_iff] at hg; rw [hg] at hx; simp at hx
  | some z =>
    have h1 := ris_last l (-1) h.1 x hx z hg
    rw [hg] at h
    have h2 : z < a := by simpa using h.2
    omega

theorem FL_at (l : List (List Event)) : ∀ (r : Nat) (_ : r ≤ l.length) (i : Nat) (hi : i < (FL l r).length), ∃ q : Nat, ∃ hq : q < l.length, ∃ k : Nat, ∃ hk : k < l[q].length, i = (FL l q).length + k ∧ (FL l r)[i] = l[q][k]
  | 0, _, i, hi => by simp [FL_zero] at hi
  | r + 1, hr, i, hi => by
    have e := FL_succ (l := l) (i := r) (by omega)
    have hi' : i < (FL l r ++ l[r]).length := by rw [← e]; exact hi
    have e2 : (FL l (r + 1))[i] = (FL l r ++ l[r])[i] := by congr 1
    by_cases h : i < (FL l r).length
    · obtain ⟨q, hq, k, hk, e3, e4⟩ := FL_at l r (by omega) i h
      exact ⟨q, hq, k, hk, e3, by rw [e2, List.getElem_append_left h, e4]⟩
    · have hk : i - (FL l r).length < l[r].length := by rw [List.length_append] at hi'; omega
      exact ⟨r, by omega, i - (FL l r).length, hk, by omega, by rw [e2, List.getElem_append_right (by omega)]⟩
theorem flat_at (l : List (List Event)) (i : Nat) (hi : i < l.flatten.length) : ∃ q : Nat, ∃ hq : q < l.length, ∃ k : Nat, ∃ hk : k < l[q].length, i = (FL l q).length + k ∧ l.flatten[i] = l[q][k] := by
  have e := FL_all l (Nat.le_refl l.length)
  obtain ⟨q, hq, k, hk, e1, e2⟩ := FL_at l l.length (Nat.le_refl _) i (by rw [e]; exact hi)
  exact ⟨q, hq, k, hk, e1, by rw [← e2]; congr 1; exact e.symm⟩
/-- An event of a candidate that may be. -/
theorem ev_ok {n : Nat} {c : Cand} (hc : Light c) (h : RefOK n c) (i : Nat) (hi : i < c.Harts.flatten.length) : small c.Harts.flatten[i] ∧ okE c.Harts.flatten[i] = true ∧ 0 ≤ c.Harts.flatten[i].At ∧ c.Harts.flatten[i].At ≤ (i : Int) := by
  obtain ⟨q, hq, k, hk, e1, e2⟩ := flat_at c.Harts i hi
  rw [e2]
  have h1 := h.rows q hq k hk
  have h2 := (hc.rows _ (List.getElem_mem hq)).2 _ (List.getElem_mem hk)
  obtain ⟨o1, _, o2, _⟩ := h1
  exact ⟨h2, o1, by omega, by omega⟩

theorem mul_ : ∀ k : Nat, k < 61 → math_bits_Mul 0 1 (k : Int) = some (0, (k : Int)) := by decide +kernel
theorem mulN (n : Nat) (k : Nat) (h : k < 61) : math_bits_Mul n 1 (k : Int) = some (0, (k : Int)) := mul_ k h
theorem repeat_ (n : Nat) (z : Int) (N : Nat) (o1 : List Cell) (o2 : List (List Event)) (o3 o4 : List Int) (o5 : List Event) (hN : N ≤ 60) (hn : 200 ≤ n) : T (slices_Repeat_int_int_S n [z] (N : Int) o1 o2 o3 o4 o5) (fun l => l.length = N) := by
  unfold slices_Repeat_int_int_S
  refine T.ite (fun d => by have := of_decide_eq_true d; omega) (fun _ => ?_)
  have e1 : IntKind.wrap .u64 (([z] : List Int).length : Int) = 1 := rfl
  rw [e1, wrapU (by omega) (by omega)]
  refine T.eqb (mulN n N (by omega)) ?_
  dsimp only
  refine T.ite (fun d => by simp at d) (fun _ => ?_)
  refine T.ite (fun d => by have := of_decide_eq_true d; omega) (fun _ => ?_)
  rw [wrapI (by omega) (by omega)]
  refine T.grd (by simp [Nat.blt]; omega) ?_
  refine T.bind (P := fun l => l.length = N) ?_ (fun l hl => T.ret hl)
  simp only [Int.toNat_natCast, List.length_replicate]
  refine T.loop N (fun i s => ∃ f : Nat, s.2 = (f : Int) ∧ s.1.length = N ∧ i ≤ f ∧ f ≤ N ∧ (1 ≤ f ∨ N = 0)) _ ?_ ⟨min 1 N, rfl, ?_, by omega, by omega, by omega⟩ (by omega)
  · rintro i ⟨s1, s2⟩ hi ⟨f, rfl, e, h1, h2, h3⟩
    dsimp only at e
    unfold slices_Repeat_int_int_S_L1
    refine T.ite (fun cd => ?_) (fun cd => T.fin e)
    have hf := lt_of cd
    dsimp only at hf
    simp only [Int.toNat_natCast]
    refine T.grd (by simp; omega) ?_
    refine T.grd (by simp; omega) ?_
    refine T.grd (ble_of (by omega)) ?_
    have hm : (List.take f (List.drop 0 s1)).length = f := by simp; omega
    rw [hm]
    refine T.ret ⟨by omega, f + min f (s1.length - f), by dsimp only; rw [addN _ _ (by omega)], ?_, by omega, by omega, by omega⟩
    simp only [List.length_append, List.length_take, List.length_drop]
    omega
  · simp only [List.length_append, List.length_take, List.length_drop, List.length_replicate, List.length_cons, List.length_nil]
    omega

/-- What a view has. -/
structure View (c : Cand) (v : ppo_view) : Prop where
  cand : v.c = some c
  alls : v.all = c.Harts.flatten
  f0 : v.fences.e0.length = c.Harts.flatten.length + 1
  f1 : v.fences.e1.length = c.Harts.flatten.length + 1
  f2 : v.fences.e2.length = c.Harts.flatten.length + 1
  f3 : v.fences.e3.length = c.Harts.flatten.length + 1
  hung : v.hung.length = c.Harts.flatten.length
def Ls (N : Nat) (g f0 f1 f2 f3 : List Int) : Prop := g.length = N ∧ f0.length = N + 1 ∧ f1.length = N + 1 ∧ f2.length = N + 1 ∧ f3.length = N + 1
theorem quo4 : ∀ k : Nat, k < 4 → decide (0 ≤ quoW .i64 (k : Int) 2) = true := by decide +kernel
theorem rem4 : ∀ k : Nat, k < 4 → decide (0 ≤ remW .i64 (k : Int) 2) = true := by decide +kernel
theorem of2_ (n : Nat) (c : Cand) (all : List Event) (x : Event) (N i : Nat) (hi : i < N) (hN : N ≤ 60) (g f0 f1 f2 f3 : List Int) (j : Int) (h : Ls N g f0 f1 f2 f3) (hn : 200 ≤ n) :
    T (iter (fun s => ppo_of_L2 n c all x s) n (g, f0, f1, f2, f3, j, 0, (i : Int))) (fun s => Ls N s.1 s.2.1 s.2.2.1 s.2.2.2.1 s.2.2.2.2.1 ∧ s.2.2.2.2.2.1 = j ∧ s.2.2.2.2.2.2 = (i : Int)) := by
  refine T.loop 4 (fun k s => Ls N s.1 s.2.1 s.2.2.1 s.2.2.2.1 s.2.2.2.2.1 ∧ s.2.2.2.2.2.1 = j ∧ s.2.2.2.2.2.2.1 = (k : Int) ∧ s.2.2.2.2.2.2.2 = (i : Int)) _ ?_ ⟨h, rfl, rfl, rfl⟩ (by omega)
  rintro k ⟨g, f0, f1, f2, f3, j', s7, s8⟩ hk ⟨⟨e1, e2, e3, e4, e5⟩, ej, e6, e7⟩
  dsimp only at e1 e2 e3 e4 e5 ej e6 e7
  subst e6 e7 ej
  unfold ppo_of_L2
  refine T.ite (fun cd => ?_) (fun _ => T.fin ⟨⟨e1, e2, e3, e4, e5⟩, rfl, rfl⟩)
  have hk4 : k < 4 := lt_of (m := 4) cd
  dsimp only
  have leaf : ∀ (g f0 f1 f2 f3 : List Int), Ls N g f0 f1 f2 f3 → T (some (.inl (g, f0, f1, f2, f3, j', addW .i64 (k : Int) 1, (i : Int)) : (List Int × List Int × List Int × List Int × List Int × Int × Int × Int) ⊕ (List Int × List Int × List Int × List Int × List Int × Int × Int)))
      (Rd (fun s' => k < 4 ∧ (Ls N s'.1 s'.2.1 s'.2.2.1 s'.2.2.2.1 s'.2.2.2.2.1 ∧ s'.2.2.2.2.2.1 = j' ∧ s'.2.2.2.2.2.2.1 = ((k + 1 : Nat) : Int) ∧ s'.2.2.2.2.2.2.2 = (i : Int))) (fun s => Ls N s.1 s.2.1 s.2.2.1 s.2.2.2.1 s.2.2.2.2.1 ∧ s.2.2.2.2.2.1 = j' ∧ s.2.2.2.2.2.2 = (i : Int))) :=
    fun g f0 f1 f2 f3 h => T.ret ⟨hk4, h, rfl, addN1 _ (by omega), rfl⟩
  have ha : addW .i64 (i : Int) 1 = ((i + 1 : Nat) : Int) := addN1 _ (by omega)
  refine T.ite (fun _ => ?_) (fun k0 => ?_)
  · refine T.get i rfl (by omega) ?_
    refine T.get (i + 1) ha (by omega) ?_
    refine T.ite (fun _ => ?_) (fun _ => leaf _ _ _ _ _ ⟨e1, by rw [List.length_set]; exact e2, e3, e4, e5⟩)
    refine T.grd (quo4 k hk4) ?_
    refine T.ite (fun _ => ?_) (fun _ => leaf _ _ _ _ _ ⟨e1, by rw [List.length_set]; exact e2, e3, e4, e5⟩)
    refine T.grd (rem4 k hk4) ?_
    refine T.ite (fun _ => ?_) (fun _ => leaf _ _ _ _ _ ⟨e1, by rw [List.length_set]; exact e2, e3, e4, e5⟩)
    refine T.get (i + 1) ha (by rw [List.length_set]; omega) ?_
    exact leaf _ _ _ _ _ ⟨e1, by rw [List.length_set, List.length_set]; exact e2, e3, e4, e5⟩
  refine T.ite (fun _ => ?_) (fun k1 => ?_)
  · refine T.get i rfl (by omega) ?_
    refine T.get (i + 1) ha (by omega) ?_
    refine T.ite (fun _ => ?_) (fun _ => leaf _ _ _ _ _ ⟨e1, e2, by rw [List.length_set]; exact e3, e4, e5⟩)
    refine T.grd (quo4 k hk4) ?_
    refine T.ite (fun _ => ?_) (fun _ => leaf _ _ _ _ _ ⟨e1, e2, by rw [List.length_set]; exact e3, e4, e5⟩)
    refine T.grd (rem4 k hk4) ?_
    refine T.ite (fun _ => ?_) (fun _ => leaf _ _ _ _ _ ⟨e1, e2, by rw [List.length_set]; exact e3, e4, e5⟩)
    refine T.get (i + 1) ha (by rw [List.length_set]; omega) ?_
    exact leaf _ _ _ _ _ ⟨e1, e2, by rw [List.length_set, List.length_set]; exact e3, e4, e5⟩
  refine T.ite (fun _ => ?_) (fun k2 => ?_)
  · refine T.get i rfl (by omega) ?_
    refine T.get (i + 1) ha (by omega) ?_
    refine T.ite (fun _ => ?_) (fun _ => leaf _ _ _ _ _ ⟨e1, e2, e3, by rw [List.length_set]; exact e4, e5⟩)
    refine T.grd (quo4 k hk4) ?_
    refine T.ite (fun _ => ?_) (fun _ => leaf _ _ _ _ _ ⟨e1, e2, e3, by rw [List.length_set]; exact e4, e5⟩)
    refine T.grd (rem4 k hk4) ?_
    refine T.ite (fun _ => ?_) (fun _ => leaf _ _ _ _ _ ⟨e1, e2, e3, by rw [List.length_set]; exact e4, e5⟩)
    refine T.get (i + 1) ha (by rw [List.length_set]; omega) ?_
    exact leaf _ _ _ _ _ ⟨e1, e2, e3, by rw [List.length_set, List.length_set]; exact e4, e5⟩
  refine T.ite (fun _ => ?_) (fun k3 => ?_)
  · refine T.get i rfl (by omega) ?_
    refine T.get (i + 1) ha (by omega) ?_
    refine T.ite (fun _ => ?_) (fun _ => leaf _ _ _ _ _ ⟨e1, e2, e3, e4, by rw [List.length_set]; exact e5⟩)
    refine T.grd (quo4 k hk4) ?_
    refine T.ite (fun _ => ?_) (fun _ => leaf _ _ _ _ _ ⟨e1, e2, e3, e4, by rw [List.length_set]; exact e5⟩)
    refine T.grd (rem4 k hk4) ?_
    refine T.ite (fun _ => ?_) (fun _ => leaf _ _ _ _ _ ⟨e1, e2, e3, e4, by rw [List.length_set]; exact e5⟩)
    refine T.get (i + 1) ha (by rw [List.length_set]; omega) ?_
    exact leaf _ _ _ _ _ ⟨e1, e2, e3, e4, by rw [List.length_set, List.length_set]; exact e5⟩
  · have k0 : (k : Int) ≠ 0 := by simpa using k0
    have k1 : (k : Int) ≠ 1 := by simpa using k1
    have k2 : (k : Int) ≠ 2 := by simpa using k2
    have k3 : (k : Int) ≠ 3 := by simpa using k3
    omega
theorem of3_ (n : Nat) (c : Cand) (all : List Event) (x : Event) (N i : Nat) (hi : i < N) (hN : N ≤ 60) (g f0 f1 f2 f3 : List Int) (h : Ls N g f0 f1 f2 f3) (hs : small x) (hx : okE x = true) (hx2 : x.At ≤ (i : Int)) (k : Int) (hn : 200 ≤ n) :
    T (iter (fun s => ppo_of_L3 n c all x s) n (g, f0, f1, f2, f3, 0, k, (i : Int))) (fun s => Ls N s.1 s.2.1 s.2.2.1 s.2.2.2.1 s.2.2.2.2.1 ∧ s.2.2.2.2.2 = k) := by
  have hb := (okTail x hx).2.2.2.2.2.2.1
  have hA := (okTail x hx).2.2.1
  unfold small at hs
  refine T.loop x.Deps.Addr.length (fun j s => Ls N s.1 s.2.1 s.2.2.1 s.2.2.2.1 s.2.2.2.2.1 ∧ s.2.2.2.2.2.1 = (j : Int) ∧ s.2.2.2.2.2.2.1 = k ∧ s.2.2.2.2.2.2.2 = (i : Int)) _ ?_ ⟨h, rfl, rfl, rfl⟩ (by omega)
  rintro j ⟨g, f0, f1, f2, f3, s6, s7, s8⟩ hj ⟨⟨e1, e2, e3, e4, e5⟩, e6, ek, e7⟩
  dsimp only at e1 e2 e3 e4 e5 e6 e7 ek
  subst e6 e7 ek
  unfold ppo_of_L3
  refine T.ite (fun cd => ?_) (fun _ => T.fin ⟨⟨e1, e2, e3, e4, e5⟩, rfl⟩)
  have hjl := lt_of cd
  dsimp only at hjl ⊢
  have hm := bel_mem hb _ (List.getElem_mem hjl)
  refine T.get j rfl hjl ?_
  have ha : addW .i64 (subW .i64 (i : Int) x.At) x.Deps.Addr[j] = ((((i : Int) - x.At + x.Deps.Addr[j]).toNat : Nat) : Int) := by
    rw [subI (by omega) (by omega), addI (by omega) (by omega)]
    omega
  refine T.get _ ha (by omega) ?_
  exact T.ret ⟨hjl, ⟨by rw [List.length_set]; exact e1, e2, e3, e4, e5⟩, addN1 _ (by omega), rfl, rfl⟩
theorem of_ (n : Nat) (c : Cand) (hc : Light c) (hn : 200 ≤ n) (h : RefOK n c) : T (ppo_of n c) (fun r => ∃ v, r = some v ∧ View c v) := by
  have hf := hc.all
  have hev := fun i hi => ev_ok hc h i hi
  unfold ppo_of
  refine T.eqb (candCheck_ n c hc hn h) ?_
  refine T.ite (fun d => by simp at d) (fun _ => ?_)
  refine T.eqb (concat_ n c hc hn) ?_
  refine T.bind (repeat_ n _ _ _ _ _ _ _ hf hn) (fun g hg => ?_)
  rw [addN1 _ (by omega)]
  generalize hall : c.Harts.flatten = all at *
  have hgr : (decide (0 ≤ ((all.length + 1 : Nat) : Int)) && decide (((all.length + 1 : Nat) : Int) ≤ ((all.length + 1 : Nat) : Int)) && decide (8 * ((all.length + 1 : Nat) : Int) ≤ 140737488355328) && decide (((all.length + 1 : Nat) : Int) ≤ 140737488355328) && Nat.blt 0 1) = true := by
    simp [Nat.blt]; omega
  refine T.grd hgr ?_
  refine T.grd hgr ?_
  refine T.grd hgr ?_
  refine T.grd hgr ?_
  simp only [Int.toNat_natCast]
  refine T.bind (P := fun t => Ls all.length t.1 t.2.1 t.2.2.1 t.2.2.2.1 t.2.2.2.2) ?_ ?_
  · refine T.loop all.length (fun i s => Ls all.length s.1 s.2.1 s.2.2.1 s.2.2.2.1 s.2.2.2.2.1 ∧ s.2.2.2.2.2 = (i : Int)) _ ?_ ⟨⟨hg, by simp, by simp, by simp, by simp⟩, rfl⟩ (by omega)
    rintro i ⟨g, f0, f1, f2, f3, s6⟩ hi ⟨hls, e6⟩
    dsimp only at hls e6
    subst e6
    unfold ppo_of_L1
    refine T.ite (fun cd => ?_) (fun _ => T.fin hls)
    have hil := lt_of cd
    dsimp only at hil ⊢
    refine T.get i rfl hil ?_
    obtain ⟨o1, o2, o3, o4⟩ := hev i hil
    refine T.bind (of2_ n c all all[i] all.length i hil hf g f0 f1 f2 f3 (i : Int) hls hn) ?_
    rintro ⟨g, f0, f1, f2, f3, s6, s7⟩ ⟨hls, e6, e7⟩
    dsimp only at hls e6 e7 ⊢
    subst e6 e7
    refine T.bind (of3_ n c all all[i] all.length i hil hf g f0 f1 f2 f3 hls o1 o2 o4 _ hn) ?_
    rintro ⟨g, f0, f1, f2, f3, s6⟩ ⟨hls, e6⟩
    dsimp only at hls e6 ⊢
    subst e6
    exact T.ret ⟨hil, hls, addN1 _ (by omega)⟩
  · rintro ⟨g, f0, f1, f2, f3⟩ ⟨e1, e2, e3, e4, e5⟩
    exact T.ret ⟨_, rfl, ⟨rfl, hall.symm, by rw [hall]; exact e2, by rw [hall]; exact e3, by rw [hall]; exact e4, by rw [hall]; exact e5, by rw [hall]; exact e1⟩⟩
end Go.Proofs.Ytigcbjbaibcgfaa
