/- A view's fences, counted; what a fence of all to all does. Plain lists, no program in sight. -/
import Derived.Test.YtigcbjbaibcgfaaF1
namespace Go.Proofs.Ytigcbjbaibcgfaa
open Go A

def full (e : Event) : Prop := e.Kind = 6 ∧ e.Pred = 3 ∧ e.Succ = 3
structure FP (all : List Event) (f : List Int) (m : Nat) : Prop where
  len : f.length = all.length + 1
  rng : ∀ (j : Nat) (hj : j < f.length), j ≤ m → 0 ≤ f[j] ∧ f[j] ≤ (j : Int)
  up : ∀ (j : Nat) (hj : j + 1 < f.length), j < m → f[j] ≤ f[j + 1]
  ful : ∀ (j : Nat) (hj : j + 1 < f.length) (ha : j < all.length), j < m → full all[j] → f[j] < f[j + 1]
theorem FP.zero (all : List Event) : FP all (List.replicate (all.length + 1) 0) 0 :=
  ⟨by simp, fun j hj h => by simp, fun j hj h => by omega, fun j hj ha h => by omega⟩
theorem FP.put {all : List Event} {f : List Int} {i : Nat} (h : FP all f i) (hi : i < all.length) (y : Int) (h1 : f[i]'(by have := h.len; omega) ≤ y) (h2 : y ≤ (i : Int) + 1) (h3 : full all[i] → f[i]'(by have := h.len; omega) < y) : FP all (f.set (i + 1) y) (i + 1) := by
  have hl := h.len
  have h0 := h.rng i (by omega) (Nat.le_refl _)
  refine ⟨by rw [List.length_set]; exact hl, fun j hj hm => ?_, fun j hj hm => ?_, fun j hj ha hm hf => ?_⟩
  · have hj' : j < f.length := by rw [List.length_set] at hj; exact hj
    rw [List.getElem_set]
    by_cases e : i + 1 = j
    · subst e
      rw [if_pos rfl]
      omega
    · rw [if_neg e]
      exact h.rng j hj' (by omega)
  · have hj' : j + 1 < f.length := by rw [List.length_set] at hj; exact hj
    rw [List.getElem_set, List.getElem_set, if_neg (by omega)]
    by_cases e : j = i
    · subst e
      rw [if_pos rfl]
      exact h1
    · rw [if_neg (by omega)]
      exact h.up j hj' (by omega)
  · have hj' : j + 1 < f.length := by rw [List.length_set] at hj; exact hj
    rw [List.getElem_set, List.getElem_set, if_neg (by omega)]
    by_cases e : j = i
    · subst e
      rw [if_pos rfl]
      exact h3 hf
    · rw [if_neg (by omega)]
      exact h.ful j hj' ha (by omega) hf
theorem FP.mono {all : List Event} {f : List Int} (h : FP all f all.length) (a : Nat) : ∀ (d : Nat) (hd : a + d < f.length), f[a] ≤ f[a + d]
  | 0, _ => by simp
  | d + 1, hd => by
    have h1 := FP.mono h a d (by omega)
    have h2 := h.up (a + d) (by omega) (by have := h.len; omega)
    exact Int.le_trans h1 h2
theorem FP.over {all : List Event} {f : List Int} (h : FP all f all.length) (a p b : Nat) (h1 : a ≤ p) (h2 : p < b) (hb : b < all.length) (hp : full (all[p]'(by omega))) : f[a]'(by have := h.len; omega) < f[b]'(by have := h.len; omega) := by
  have hl := h.len
  have g1 := h.mono a (p - a) (by omega)
  have g2 := h.ful p (by omega) (by omega) (by omega) hp
  have g3 := h.mono (p + 1) (b - (p + 1)) (by omega)
  have e1 : f[a + (p - a)]'(by omega) = f[p]'(by omega) := by congr 1; omega
  have e2 : f[p + 1 + (b - (p + 1))]'(by omega) = f[b]'(by omega) := by congr 1; omega
  omega

theorem predB : ∀ k : Nat, k < 4 → ((andW .i64 (shrW .i64 3 (quoW .i64 (k : Int) 2)) 1) == 1) = true := by decide +kernel
theorem succB : ∀ k : Nat, k < 4 → ((andW .i64 (shrW .i64 3 (remW .i64 (k : Int) 2)) 1) == 1) = true := by decide +kernel
theorem ofcore {β : Type} {all : List Event} {f : List Int} {i k : Nat} (h : FP all f i) (hi : i < all.length) (hN : all.length ≤ 60) (hk : k < 4) (x : Event) (hx : all[i] = x) (Z : List Int → Option β) {Q : β → Prop} (hZ : ∀ f', FP all f' (i + 1) → T (Z f') Q) :
    T ((getI f (i : Int)).bind fun xb3 => (getI f (addW .i64 (i : Int) 1)).bind fun _ =>
      if (x.Kind == 6) = true then
        grd (decide (0 ≤ (quoW .i64 (k : Int) 2))) <|
        if ((andW .i64 (shrW .i64 x.Pred (quoW .i64 (k : Int) 2)) 1) == 1) = true then
          grd (decide (0 ≤ (remW .i64 (k : Int) 2))) <|
          if ((andW .i64 (shrW .i64 x.Succ (remW .i64 (k : Int) 2)) 1) == 1) = true then
            (getI (f.set ((addW .i64 (i : Int) 1)).toNat xb3) (addW .i64 (i : Int) 1)).bind fun xb10 => Z ((f.set ((addW .i64 (i : Int) 1)).toNat xb3).set ((addW .i64 (i : Int) 1)).toNat (addW .i64 xb10 1))
          else Z (f.set ((addW .i64 (i : Int) 1)).toNat xb3)
        else Z (f.set ((addW .i64 (i : Int) 1)).toNat xb3)
      else Z (f.set ((addW .i64 (i : Int) 1)).toNat xb3)) Q := by
  have hl := h.len
  have h0 := h.rng i (by omega) (Nat.le_refl _)
  refine T.get i rfl (by omega) ?_
  rw [addN1 i (by omega)]
  refine T.get (i + 1) rfl (by omega) ?_
  have same : ¬ full x → T (Z (f.set (((i + 1 : Nat) : Int)).toNat f[i])) Q := fun hn => hZ _ (by
    rw [Int.toNat_natCast]
    exact h.put hi _ (Int.le_refl _) (by omega) (fun hf => absurd (hx ▸ hf) hn))
  refine T.ite (fun _ => ?_) (fun d => same (fun hf => by rw [hf.1] at d; simp at d))
  refine T.grd (quo4 k hk) ?_
  refine T.ite (fun _ => ?_) (fun d => same (fun hf => by rw [hf.2.1, predB k hk] at d; simp at d))
  refine T.grd (rem4 k hk) ?_
  refine T.ite (fun _ => ?_) (fun d => same (fun hf => by rw [hf.2.2, succB k hk] at d; simp at d))
  refine T.get (i + 1) rfl (by rw [List.length_set]; omega) ?_
  have e : (f.set (((i + 1 : Nat) : Int)).toNat f[i])[i + 1]'(by rw [List.length_set]; omega) = f[i] := by
    simp only [Int.toNat_natCast]
    rw [List.getElem_set, if_pos rfl]
  rw [e, Int.toNat_natCast, List.set_set, addI (by omega) (by omega)]
  exact hZ _ (h.put hi _ (by omega) (by omega) (fun _ => by omega))

/-- A view, with its fences counted. -/
structure FV (c : Cand) (v : ppo_view) : Prop where
  view : View c v
  p0 : FP c.Harts.flatten v.fences.e0 c.Harts.flatten.length
  p1 : FP c.Harts.flatten v.fences.e1 c.Harts.flatten.length
  p2 : FP c.Harts.flatten v.fences.e2 c.Harts.flatten.length
  p3 : FP c.Harts.flatten v.fences.e3 c.Harts.flatten.length
def at4 (j k i : Nat) : Nat := if j < k then i + 1 else i
structure Lk (all : List Event) (i k : Nat) (g f0 f1 f2 f3 : List Int) : Prop where
  g : g.length = all.length
  p0 : FP all f0 (at4 0 k i)
  p1 : FP all f1 (at4 1 k i)
  p2 : FP all f2 (at4 2 k i)
  p3 : FP all f3 (at4 3 k i)
theorem of2F_ (n : Nat) (c : Cand) (all : List Event) (x : Event) (i : Nat) (hi : i < all.length) (hx : all[i] = x) (hN : all.length ≤ 60) (g f0 f1 f2 f3 : List Int) (j : Int) (h : Lk all i 0 g f0 f1 f2 f3) (hn : 200 ≤ n) :
    T (iter (fun s => ppo_of_L2 n c all x s) n (g, f0, f1, f2, f3, j, 0, (i : Int))) (fun s => Lk all i 4 s.1 s.2.1 s.2.2.1 s.2.2.2.1 s.2.2.2.2.1 ∧ s.2.2.2.2.2.1 = j ∧ s.2.2.2.2.2.2 = (i : Int)) := by
  refine T.loop 4 (fun k s => Lk all i k s.1 s.2.1 s.2.2.1 s.2.2.2.1 s.2.2.2.2.1 ∧ s.2.2.2.2.2.1 = j ∧ s.2.2.2.2.2.2.1 = (k : Int) ∧ s.2.2.2.2.2.2.2 = (i : Int)) _ ?_ ⟨h, rfl, rfl, rfl⟩ (by omega)
  rintro k ⟨g, f0, f1, f2, f3, j', s7, s8⟩ hk ⟨⟨e1, e2, e3, e4, e5⟩, ej, e6, e7⟩
  dsimp only at e1 e2 e3 e4 e5 ej e6 e7
  subst e6 e7 ej
  unfold ppo_of_L2
  refine T.ite (fun cd => ?_) (fun cd => ?_)
  case _ =>
    have hk4 : k < 4 := lt_of (m := 4) cd
    dsimp only
    have leaf : ∀ (g f0 f1 f2 f3 : List Int), Lk all i (k + 1) g f0 f1 f2 f3 → T (some (.inl (g, f0, f1, f2, f3, j', addW .i64 (k : Int) 1, (i : Int)) : (List Int × List Int × List Int × List Int × List Int × Int × Int × Int) ⊕ (List Int × List Int × List Int × List Int × List Int × Int × Int)))
        (Rd (fun s' => k < 4 ∧ (Lk all i (k + 1) s'.1 s'.2.1 s'.2.2.1 s'.2.2.2.1 s'.2.2.2.2.1 ∧ s'.2.2.2.2.2.1 = j' ∧ s'.2.2.2.2.2.2.1 = ((k + 1 : Nat) : Int) ∧ s'.2.2.2.2.2.2.2 = (i : Int))) (fun s => Lk all i 4 s.1 s.2.1 s.2.2.1 s.2.2.2.1 s.2.2.2.2.1 ∧ s.2.2.2.2.2.1 = j' ∧ s.2.2.2.2.2.2 = (i : Int))) :=
      fun g f0 f1 f2 f3 h => T.ret ⟨hk4, h, rfl, addN1 _ (by omega), rfl⟩
    refine T.ite (fun k0 => ?_) (fun k0 => ?_)
    · have hk0 : k = 0 := by have := eq_of_beq k0; omega
      subst hk0
      exact ofcore (β := (List Int × List Int × List Int × List Int × List Int × Int × Int × Int) ⊕ (List Int × List Int × List Int × List Int × List Int × Int × Int)) e2 hi hN hk4 x hx (fun f => some (.inl (g, f, f1, f2, f3, j', addW .i64 ((0 : Nat) : Int) 1, (i : Int)))) (fun f' hf => leaf g f' f1 f2 f3 ⟨e1, hf, e3, e4, e5⟩)
    refine T.ite (fun k1 => ?_) (fun k1 => ?_)
    · have hk0 : k = 1 := by have := eq_of_beq k1; omega
      subst hk0
      exact ofcore (β := (List Int × List Int × List Int × List Int × List Int × Int × Int × Int) ⊕ (List Int × List Int × List Int × List Int × List Int × Int × Int)) e3 hi hN hk4 x hx (fun f => some (.inl (g, f0, f, f2, f3, j', addW .i64 ((1 : Nat) : Int) 1, (i : Int)))) (fun f' hf => leaf g f0 f' f2 f3 ⟨e1, e2, hf, e4, e5⟩)
    refine T.ite (fun k2 => ?_) (fun k2 => ?_)
    · have hk0 : k = 2 := by have := eq_of_beq k2; omega
      subst hk0
      exact ofcore (β := (List Int × List Int × List Int × List Int × List Int × Int × Int × Int) ⊕ (List Int × List Int × List Int × List Int × List Int × Int × Int)) e4 hi hN hk4 x hx (fun f => some (.inl (g, f0, f1, f, f3, j', addW .i64 ((2 : Nat) : Int) 1, (i : Int)))) (fun f' hf => leaf g f0 f1 f' f3 ⟨e1, e2, e3, hf, e5⟩)
    refine T.ite (fun k3 => ?_) (fun k3 => ?_)
    · have hk0 : k = 3 := by have := eq_of_beq k3; omega
      subst hk0
      exact ofcore (β := (List Int × List Int × List Int × List Int × List Int × Int × Int × Int) ⊕ (List Int × List Int × List Int × List Int × List Int × Int × Int)) e5 hi hN hk4 x hx (fun f => some (.inl (g, f0, f1, f2, f, j', addW .i64 ((3 : Nat) : Int) 1, (i : Int)))) (fun f' hf => leaf g f0 f1 f2 f' ⟨e1, e2, e3, e4, hf⟩)
    · have k0 : (k : Int) ≠ 0 := by simpa using k0
      have k1 : (k : Int) ≠ 1 := by simpa using k1
      have k2 : (k : Int) ≠ 2 := by simpa using k2
      have k3 : (k : Int) ≠ 3 := by simpa using k3
      omega
  case _ =>
    have h4 : 4 ≤ k := ge_of (m := 4) cd
    have : k = 4 := by omega
    subst this
    exact T.fin ⟨⟨e1, e2, e3, e4, e5⟩, rfl, rfl⟩
theorem of3F_ (n : Nat) (c : Cand) (all : List Event) (x : Event) (i : Nat) (hi : i < all.length) (hN : all.length ≤ 60) (g f0 f1 f2 f3 : List Int) (h : g.length = all.length) (hs : small x) (hx : okE x = true) (hx2 : x.At ≤ (i : Int)) (k : Int) (hn : 200 ≤ n) :
    T (iter (fun s => ppo_of_L3 n c all x s) n (g, f0, f1, f2, f3, 0, k, (i : Int))) (fun s => s.1.length = all.length ∧ s.2 = (f0, f1, f2, f3, k)) := by
  have hb := (okTail x hx).2.2.2.2.2.2.1
  have hA := (okTail x hx).2.2.1
  unfold small at hs
  refine T.loop x.Deps.Addr.length (fun j s => s.1.length = all.length ∧ s.2 = (f0, f1, f2, f3, (j : Int), k, (i : Int))) _ ?_ ⟨h, rfl⟩ (by omega)
  rintro j ⟨g, s2⟩ hj ⟨e1, e2⟩
  dsimp only at e1 e2
  subst e2
  unfold ppo_of_L3
  refine T.ite (fun cd => ?_) (fun _ => T.fin ⟨e1, rfl⟩)
  have hjl := lt_of cd
  dsimp only at hjl ⊢
  have hm := bel_mem hb _ (List.getElem_mem hjl)
  refine T.get j rfl hjl ?_
  have ha : addW .i64 (subW .i64 (i : Int) x.At) x.Deps.Addr[j] = ((((i : Int) - x.At + x.Deps.Addr[j]).toNat : Nat) : Int) := by
    rw [subI (by omega) (by omega), addI (by omega) (by omega)]
    omega
  refine T.get _ ha (by omega) ?_
  exact T.ret ⟨hjl, by dsimp only; rw [List.length_set]; exact e1, by dsimp only; rw [addN1 _ (by omega)]⟩
theorem ofF_ (n : Nat) (c : Cand) (hc : Light c) (hn : 200 ≤ n) (h : RefOK n c) : T (ppo_of n c) (fun r => ∃ v, r = some v ∧ FV c v) := by
  have hf := hc.all
  have hev := fun i hi => ev_ok hc h i hi
  unfold ppo_of
  refine T.eqb (candCheck_ n c hc hn h) ?_
  refine T.ite (fun d => by simp at d) (fun _ => ?_)
  refine T.eqb (concat_ n c hc hn) ?_
  refine T.bind (repeat_ n _ _ _ _ _ _ _ hf hn) (fun g hg => ?_)
  rw [addN1 _ (by omega)]
  generalize hall : c.Harts.flatten = all at *
  have hgr : (decide (0 ≤ ((all.length + 1 : Nat) : Int)) && decide (((all.length + 1 : Nat) : Int) ≤ ((all.length + 1 : Nat) : Int)) && decide (8 * ((all.length + 1 : Nat) : Int) ≤ 140737488355328) && decide (((all.length + 1 : Nat) : Int) ≤ 140737488355328) && Nat.blt 0 1) = true := by
    simp [Nat.blt]; omega
  refine T.grd hgr ?_
  refine T.grd hgr ?_
  refine T.grd hgr ?_
  refine T.grd hgr ?_
  simp only [Int.toNat_natCast]
  refine T.bind (P := fun t => Lk all all.length 0 t.1 t.2.1 t.2.2.1 t.2.2.2.1 t.2.2.2.2) ?_ ?_
  · refine T.loop all.length (fun i s => Lk all i 0 s.1 s.2.1 s.2.2.1 s.2.2.2.1 s.2.2.2.2.1 ∧ s.2.2.2.2.2 = (i : Int)) _ ?_ ⟨⟨hg, FP.zero all, FP.zero all, FP.zero all, FP.zero all⟩, rfl⟩ (by omega)
    rintro i ⟨g, f0, f1, f2, f3, s6⟩ hi ⟨hls, e6⟩
    dsimp only at hls e6
    subst e6
    unfold ppo_of_L1
    refine T.ite (fun cd => ?_) (fun cd => ?_)
    case _ =>
      have hil := lt_of cd
      dsimp only at hil ⊢
      refine T.get i rfl hil ?_
      obtain ⟨o1, o2, o3, o4⟩ := hev i hil
      refine T.bind (of2F_ n c all all[i] i hil rfl hf g f0 f1 f2 f3 (i : Int) hls hn) ?_
      rintro ⟨g, f0, f1, f2, f3, s6, s7⟩ ⟨hls, e6, e7⟩
      dsimp only at hls e6 e7 ⊢
      subst e6 e7
      refine T.bind (of3F_ n c all all[i] i hil hf g f0 f1 f2 f3 hls.g o1 o2 o4 _ hn) ?_
      rintro ⟨g, s2⟩ ⟨e1, e2⟩
      dsimp only at e1 e2 ⊢
      subst e2
      exact T.ret ⟨hil, ⟨e1, hls.p0, hls.p1, hls.p2, hls.p3⟩, addN1 _ (by omega)⟩
    case _ =>
      have := ge_of cd
      have : i = all.length := by omega
      subst this
      exact T.fin hls
  · rintro ⟨g, f0, f1, f2, f3⟩ ⟨e1, e2, e3, e4, e5⟩
    have r : ∀ {f : List Int} {k : Nat}, FP all f (at4 k 0 all.length) → FP c.Harts.flatten f c.Harts.flatten.length := fun h => by rw [hall]; exact h
    refine T.ret ⟨_, rfl, ⟨⟨rfl, hall.symm, ?_, ?_, ?_, ?_, by rw [hall]; exact e1⟩, r e2, r e3, r e4, r e5⟩⟩
    · rw [hall]; exact e2.len
    · rw [hall]; exact e3.len
    · rw [hall]; exact e4.len
    · rw [hall]; exact e5.len

/-! ### What stands behind a fence of all to all -/
theorem sidesM_ (n : Nat) (e : Event) (h : memB e.Kind = true) : T (ppo_sides n e) (fun l => 0 < l.length ∧ ∀ x ∈ l, x = 0 ∨ x = 1) := by
  unfold ppo_sides
  refine T.eqb (eWrites_ _ _) ?_
  refine T.ite (fun _ => ?_) (fun h1 => ?_)
  · refine T.eqb (eReads_ _ _) ?_
    refine T.ite (fun _ => ?_) (fun _ => T.ret (by simp))
    exact T.grd rfl (T.ret (by simp))
  · refine T.eqb (eReads_ _ _) ?_
    refine T.ite (fun _ => T.ret (by simp)) (fun h2 => ?_)
    unfold memB at h
    rw [h1, h2] at h
    simp at h
theorem fencedF_ (n : Nat) (c : Cand) (v : ppo_view) (hv : FV c v) (a p b : Nat) (h1 : a ≤ p) (h2 : p < b) (hb : b < c.Harts.flatten.length) (hp : full (c.Harts.flatten[p]'(by omega)))
    (ma : memB (c.Harts.flatten[a]'(by omega)).Kind = true) (mb : memB c.Harts.flatten[b].Kind = true) (hn : 200 ≤ n) : ppo_view_fenced n v (a : Int) (b : Int) = some true := by
  have ga : getI v.all (a : Int) = some (c.Harts.flatten[a]'(by omega)) := by rw [hv.view.alls]; exact getI_at rfl (by omega)
  have gb : getI v.all (b : Int) = some c.Harts.flatten[b] := by rw [hv.view.alls]; exact getI_at rfl hb
  have o0 := hv.p0.over a p b h1 h2 hb hp
  have o1 := hv.p1.over a p b h1 h2 hb hp
  have o2 := hv.p2.over a p b h1 h2 hb hp
  have o3 := hv.p3.over a p b h1 h2 hb hp
  have l0 := hv.p0.len
  have l1 := hv.p1.len
  have l2 := hv.p2.len
  have l3 := hv.p3.len
  have key : T (ppo_view_fenced n v (a : Int) (b : Int)) (fun r => r = true) := by
    unfold ppo_view_fenced
    refine T.eqb ga ?_
    refine T.bind (sidesM_ n _ ma) (fun l hl => ?_)
    refine T.bind (P := fun (r : Unit ⊕ Unit) => match r with | .inl _ => False | .inr _ => True) ?_ (fun r hr => by
      cases r with
      | inl _ => exact hr.elim
      | inr _ => exact T.ret rfl)
    refine T.loop 0 (fun i s => s = 0) _ ?_ rfl (by omega)
    rintro i s hi rfl
    unfold ppo_view_fenced_L1
    refine T.ite (fun _ => ?_) (fun d => absurd (of_decide_eq_false d) (by omega))
    refine T.get 0 rfl hl.1 ?_
    refine T.eqb gb ?_
    refine T.bind (sidesM_ n _ mb) (fun q hq => ?_)
    have hx := hl.2 _ (List.getElem_mem hl.1)
    generalize l[0] = x at hx
    refine T.bind (P := fun (r : Int ⊕ Unit) => match r with | .inl _ => False | .inr _ => True) ?_ (fun r hr => by
      cases r with
      | inl _ => exact hr.elim
      | inr _ => exact T.fin trivial)
    refine T.loop 0 (fun i s => s = (0, 0)) _ ?_ rfl (by omega)
    rintro k s hk rfl
    unfold ppo_view_fenced_L2
    refine T.ite (fun _ => ?_) (fun d => absurd (show (0 : Int) < (q.length : Int) by have := hq.1; omega) (of_decide_eq_false d))
    dsimp only
    refine T.get 0 rfl hq.1 ?_
    have hy := hq.2 _ (List.getElem_mem hq.1)
    generalize q[0] = y at hy
    rw [mulI (by omega) (by omega), addI (by omega) (by omega)]
    refine T.ite (fun _ => ?_) (fun c0 => ?_)
    · exact T.get b rfl (by omega) (T.get a rfl (by omega) (T.ite (fun _ => T.fin trivial) (fun d => absurd o0 (of_decide_eq_false d))))
    refine T.ite (fun _ => ?_) (fun c1 => ?_)
    · exact T.get b rfl (by omega) (T.get a rfl (by omega) (T.ite (fun _ => T.fin trivial) (fun d => absurd o1 (of_decide_eq_false d))))
    refine T.ite (fun _ => ?_) (fun c2 => ?_)
    · exact T.get b rfl (by omega) (T.get a rfl (by omega) (T.ite (fun _ => T.fin trivial) (fun d => absurd o2 (of_decide_eq_false d))))
    refine T.ite (fun _ => ?_) (fun c3 => ?_)
    · exact T.get b rfl (by omega) (T.get a rfl (by omega) (T.ite (fun _ => T.fin trivial) (fun d => absurd o3 (of_decide_eq_false d))))
    exfalso
    have c0 : ¬ (2 * x + y = 0) := by simpa using c0
    have c1 : ¬ (2 * x + y = 1) := by simpa using c1
    have c2 : ¬ (2 * x + y = 2) := by simpa using c2
    have c3 : ¬ (2 * x + y = 3) := by simpa using c3
    omega
  obtain ⟨r, g1, g2⟩ := key
  rw [g1, g2]
theorem rvF_ (n : Nat) (c : Cand) (v : ppo_view) (hv : FV c v) (R : Rules n c v) (a p b : Nat) (h1 : a ≤ p) (h2 : p < b) (hb : b < c.Harts.flatten.length) (hp : full (c.Harts.flatten[p]'(by omega))) (h : aheadB c.Harts.flatten a b = true) (hn : 200 ≤ n) : 0 < rv n v a b := by
  have ha : a < c.Harts.flatten.length := by omega
  have hm := h
  rw [aheadB_eq ha hb] at hm
  simp only [Bool.and_eq_true, decide_eq_true_eq] at hm
  have hH : HH n c v a b 3 = true := by
    unfold HH
    rw [List.getElem?_eq_getElem ha, List.getElem?_eq_getElem hb]
    show (ppo_rules_4 n v (a : Int) (b : Int) c.Harts.flatten[a] c.Harts.flatten[b]).getD false = true
    unfold ppo_rules_4
    rw [fencedF_ n c v hv a p b h1 h2 hb hp hm.2.2.1 hm.2.2.2 hn]
    rfl
  rcases R.first a b ha hb h with ⟨_, g⟩ | ⟨i, _, g, _⟩
  · rw [g 3 (by omega)] at hH
    simp at hH
  · omega
end Go.Proofs.Ytigcbjbaibcgfaa
