/- The relation between the abstract evaluator's values and state and the model's: definitions and first lemmas. -/
import Derived.Test.YtnjpjmeoednfcaaA3
import Derived.Below
namespace Go.Proofs.Ytnjpjmeoednfcaa
namespace A
open Go

/-- Where an object lies: its block, its first cell, the cells of an element, how many elements; or nowhere, being empty. -/
inductive MV where
  | blk (b o sz n : Nat)
  | virt

structure Env where
  F : Nat → Prop
  mu : Key → Option MV
  h : Array Obj

def Env.fz (E : Env) : Env := ⟨E.F, fun _ => none, E.h⟩
def onlyO (mu : Key → Option MV) : Key → Option MV
  | .L _ => none
  | .O i => mu (.O i)
def Env.ob (E : Env) : Env := ⟨E.F, onlyO E.mu, E.h⟩

def cellH (h : Array Obj) (b i : Nat) : Option Value :=
  match h[b]? with
  | some (.cells c _ _) => c[i]?
  | _ => none
def sizeH (h : Array Obj) (b : Nat) : Nat :=
  match h[b]? with
  | some (.cells c _ _) => c.size
  | _ => 0

def plain : Value → Bool
  | .bool _ | .int _ _ | .float _ _ | .complex _ _ _ | .string _ => true
  | _ => false

inductive VR : Env → AV → Value → Prop where
  | bad (E : Env) (u : Value) : VR E .bad u
  | v (E : Env) (x : Value) : plain x = true → VR E (.v x) x
  | nilp (E : Env) : VR E .nilp (.pointer none)
  | ptr {E : Env} {k : Key} {b o sz n : Nat} (i j : Nat) : E.mu k = some (.blk b o sz n) → VR E (.ptr k i j) (.pointer (some ⟨b, o + i * sz + j, none⟩))
  | fptr {E : Env} {row : List AV} {b o : Nat} (j : Nat) (us : List Value) : us.length = row.length → (∀ (m : Nat) (c : AV) (u : Value), row[m]? = some c → us[m]? = some u → VR E.fz c u) →
      E.F b → (∀ (m : Nat) (u : Value), us[m]? = some u → cellH E.h b (o + m) = some u) → VR E (.fptr row j) (.pointer (some ⟨b, o + j, none⟩))
  | nilsl (E : Env) : VR E .nilsl (.slice none 0 0)
  | esln (E : Env) : VR E .esl (.slice none 0 0)
  | esl (E : Env) (a : Addr) : VR E .esl (.slice (some a) 0 0)
  | sln (E : Env) : VR E (.sl []) (.slice none 0 0)
  | sle (E : Env) (a : Addr) (cap : Nat) : VR E (.sl []) (.slice (some a) 0 cap)
  | sl {E : Env} {rows : List (List AV)} {sz b o cap : Nat} (us : List Value) : 0 < sz → (∀ r ∈ rows, r.length = sz) → us.length = rows.flatten.length →
      (∀ (m : Nat) (c : AV) (u : Value), rows.flatten[m]? = some c → us[m]? = some u → VR E.fz c u) → E.F b → (∀ (m : Nat) (u : Value), us[m]? = some u → cellH E.h b (o + m) = some u) →
      rows.length ≤ cap → VR E (.sl rows) (.slice (some ⟨b, o, none⟩) rows.length cap)
  | mfn {E : Env} {id : Nat} : E.mu (.O id) = some .virt → VR E (.mf id) (.slice none 0 0)
  | mfe {E : Env} {id : Nat} (a : Addr) : E.mu (.O id) = some .virt → VR E (.mf id) (.slice (some a) 0 0)
  | mf {E : Env} {id b o sz n : Nat} (cap : Nat) : E.mu (.O id) = some (.blk b o sz n) → n ≤ cap → o + cap * sz ≤ sizeH E.h b → VR E (.mf id) (.slice (some ⟨b, o, none⟩) n cap)
  | msle {E : Env} {id : Nat} {x : MV} (off : Nat) (a : Option Addr) : E.mu (.O id) = some x → VR E (.msl id off 0 0) (.slice a 0 0)
  | msl {E : Env} {id b o sz n : Nat} (off len ext cap : Nat) : E.mu (.O id) = some (.blk b o sz n) → off + len + ext ≤ n → len + ext ≤ cap → o + (off + cap) * sz ≤ sizeH E.h b →
      VR E (.msl id off len ext) (.slice (some ⟨b, o + off * sz, none⟩) len cap)
  | nilmap (E : Env) : VR E .nilmap (.map none)
  | mp {E : Env} {id b o sz n : Nat} : E.mu (.O id) = some (.blk b o sz n) → VR E (.mp id) (.map (some b))
  | nilfn (E : Env) : VR E .nilfn .nilFunc
  | fn {E : Env} {f : Nat} {xs ys : List AV} (us ws : Array Value) : xs.length = us.size → (∀ (m : Nat) (c : AV) (u : Value), xs[m]? = some c → us[m]? = some u → VR E c u) →
      ys.length = ws.size → (∀ (m : Nat) (c : AV) (u : Value), ys[m]? = some c → ws[m]? = some u → VR E c u) → VR E (.fn f xs ys) (.func (.func f) us ws)
  | agg {E : Env} {cs : List AV} (us : Array Value) : cs.length = us.size → (∀ (m : Nat) (c : AV) (u : Value), cs[m]? = some c → us[m]? = some u → VR E c u) → VR E (.agg cs) (.agg us)
  | tup {E : Env} {cs : List AV} (us : Array Value) : cs.length = us.size → (∀ (m : Nat) (c : AV) (u : Value), cs[m]? = some c → us[m]? = some u → VR E c u) → VR E (.tup cs) (.tuple us)

/-- The later of two environments. -/
structure LE (E E' : Env) : Prop where
  F : ∀ b, E.F b → E'.F b
  mu : ∀ k x, E.mu k = some x → E'.mu k = some x
  hF : ∀ b, E.F b → E'.h[b]? = E.h[b]?
  sz : ∀ k b o s n, E.mu k = some (.blk b o s n) → sizeH E'.h b = sizeH E.h b

theorem LE.refl (E : Env) : LE E E := ⟨fun _ h => h, fun _ _ h => h, fun _ _ => rfl, fun _ _ _ _ _ _ => rfl⟩
theorem LE.trans {E E' E'' : Env} (h : LE E E') (k : LE E' E'') : LE E E'' :=
  ⟨fun b hb => k.F b (h.F b hb), fun x y hx => k.mu x y (h.mu x y hx), fun b hb => (k.hF b (h.F b hb)).trans (h.hF b hb),
   fun x b o s n hx => (k.sz x b o s n (h.mu _ _ hx)).trans (h.sz x b o s n hx)⟩
theorem LE.fz {E E' : Env} (h : LE E E') : LE E.fz E'.fz := ⟨h.F, fun _ _ hx => (by cases hx), h.hF, fun _ _ _ _ _ hx => (by cases hx)⟩
theorem onlyO_some {mu : Key → Option MV} {k : Key} {x : MV} (h : onlyO mu k = some x) : mu k = some x := by
  cases k with
  | L d => cases h
  | O i => exact h
theorem LE.ob {E E' : Env} (h : LE E E') : LE E.ob E'.ob :=
  ⟨h.F, fun k x hx => (by
    cases k with
    | L d => cases hx
    | O i => exact h.mu _ _ hx), h.hF, fun k b o s n hx => h.sz k b o s n (onlyO_some hx)⟩
theorem fz_fz (E : Env) : E.fz.fz = E.fz := rfl

theorem cellH_of {h h' : Array Obj} {b : Nat} (e : h'[b]? = h[b]?) (i : Nat) : cellH h' b i = cellH h b i := by
  unfold cellH; rw [e]

theorem VR.mono {E : Env} {a : AV} {u : Value} (hv : VR E a u) : ∀ {E' : Env}, LE E E' → VR E' a u := by
  induction hv with
  | bad E u => intro E' _; exact .bad _ _
  | v E x hx => intro E' _; exact .v _ _ hx
  | nilp E => intro E' _; exact .nilp _
  | ptr i j hm => intro E' h; exact .ptr i j (h.mu _ _ hm)
  | fptr j us hl hc hF hcell ih => intro E' h; exact .fptr j us hl (fun m c u h1 h2 => ih m c u h1 h2 h.fz) (h.F _ hF) (fun m u hu => (cellH_of (h.hF _ hF) _).trans (hcell m u hu))
  | nilsl E => intro E' _; exact .nilsl _
  | esln E => intro E' _; exact .esln _
  | esl E a => intro E' _; exact .esl _ a
  | sln E => intro E' _; exact .sln _
  | sle E a cap => intro E' _; exact .sle _ a cap
  | sl us hsz hr hl hc hF hcell hcap ih => intro E' h; exact .sl us hsz hr hl (fun m c u h1 h2 => ih m c u h1 h2 h.fz) (h.F _ hF) (fun m u hu => (cellH_of (h.hF _ hF) _).trans (hcell m u hu)) hcap
  | mfn hm => intro E' h; exact .mfn (h.mu _ _ hm)
  | mfe a hm => intro E' h; exact .mfe a (h.mu _ _ hm)
  | mf cap hm hn hc => intro E' h; exact .mf cap (h.mu _ _ hm) hn (by rw [h.sz _ _ _ _ _ hm]; exact hc)
  | msle off a hm => intro E' h; exact .msle off a (h.mu _ _ hm)
  | msl off len ext cap hm h1 h2 h3 => intro E' h; exact .msl off len ext cap (h.mu _ _ hm) h1 h2 (by rw [h.sz _ _ _ _ _ hm]; exact h3)
  | nilmap E => intro E' _; exact .nilmap _
  | mp hm => intro E' h; exact .mp (h.mu _ _ hm)
  | nilfn E => intro E' _; exact .nilfn _
  | fn us ws h1 h2 h3 h4 ih1 ih2 => intro E' h; exact .fn us ws h1 (fun m c u hc hu => ih1 m c u hc hu h) h3 (fun m c u hc hu => ih2 m c u hc hu h)
  | agg us h1 h2 ih => intro E' h; exact .agg us h1 (fun m c u hc hu => ih m c u hc hu h)
  | tup us h1 h2 ih => intro E' h; exact .tup us h1 (fun m c u hc hu => ih m c u hc hu h)

theorem VR.of_fz {E : Env} {a : AV} {u : Value} (hv : VR E.fz a u) : VR E a u :=
  hv.mono ⟨fun _ h => h, fun _ _ h => (by cases h), fun _ _ => rfl, fun _ _ _ _ _ h => (by cases h)⟩
theorem VR.of_ob {E : Env} {a : AV} {u : Value} (hv : VR E.ob a u) : VR E a u :=
  hv.mono ⟨fun _ h => h, fun _ _ h => onlyO_some h, fun _ _ => rfl, fun _ _ _ _ _ _ => rfl⟩
theorem VR.fz_ob {E : Env} {a : AV} {u : Value} (hv : VR E.fz a u) : VR E.ob a u :=
  hv.mono ⟨fun _ h => h, fun _ _ h => (by cases h), fun _ _ => rfl, fun _ _ _ _ _ h => (by cases h)⟩

/-- Lists, cell by cell. -/
def VRs (E : Env) (cs : List AV) (us : List Value) : Prop :=
  cs.length = us.length ∧ ∀ (m : Nat) (c : AV) (u : Value), cs[m]? = some c → us[m]? = some u → VR E c u
theorem VRs.mono {E E' : Env} {cs : List AV} {us : List Value} (h : VRs E cs us) (hl : LE E E') : VRs E' cs us := ⟨h.1, fun m c u h1 h2 => (h.2 m c u h1 h2).mono hl⟩
theorem VRs.nil (E : Env) : VRs E [] [] := ⟨rfl, fun m c u h => (by simp at h)⟩
theorem VRs.cons {E : Env} {c : AV} {u : Value} {cs : List AV} {us : List Value} (h : VR E c u) (hs : VRs E cs us) : VRs E (c :: cs) (u :: us) :=
  ⟨by simp [hs.1], fun m c' u' h1 h2 => by
    cases m with
    | zero => simp at h1 h2; subst h1 h2; exact h
    | succ m => exact hs.2 m c' u' (by simpa using h1) (by simpa using h2)⟩
theorem VRs.uncons {E : Env} {c : AV} {cs : List AV} {vs : List Value} (h : VRs E (c :: cs) vs) : ∃ u us, vs = u :: us ∧ VR E c u ∧ VRs E cs us := by
  cases vs with
  | nil => exact absurd h.1 (by simp)
  | cons u us => exact ⟨u, us, rfl, h.2 0 c u rfl rfl, by simpa using h.1, fun m c' u' h1 h2 => h.2 (m + 1) c' u' (by simpa using h1) (by simpa using h2)⟩
theorem VRs.unnil {E : Env} {vs : List Value} (h : VRs E [] vs) : vs = [] := List.eq_nil_of_length_eq_zero h.1.symm
theorem VRs.get {E : Env} {cs : List AV} {us : List Value} (h : VRs E cs us) {m : Nat} {c : AV} (hc : cs[m]? = some c) : ∃ u, us[m]? = some u ∧ VR E c u := by
  have hm : m < us.length := by rw [← h.1]; exact (List.getElem?_eq_some_iff.1 hc).1
  exact ⟨us[m], List.getElem?_eq_getElem hm, h.2 m c _ hc (List.getElem?_eq_getElem hm)⟩
theorem VRs.append {E : Env} {cs ds : List AV} {us vs : List Value} (h : VRs E cs us) (k : VRs E ds vs) : VRs E (cs ++ ds) (us ++ vs) := by
  induction cs generalizing us with
  | nil => rw [h.unnil]; exact k
  | cons c cs ih =>
    obtain ⟨u, us', rfl, hc, hs⟩ := h.uncons
    exact .cons hc (ih hs)
theorem VRs.take {E : Env} {cs : List AV} {us : List Value} (h : VRs E cs us) (n : Nat) : VRs E (cs.take n) (us.take n) :=
  ⟨by simp [h.1], fun m c u h1 h2 => by
    rw [List.getElem?_take] at h1 h2
    split at h1
    · rename_i hm; rw [if_pos hm] at h2; exact h.2 m c u h1 h2
    · cases h1⟩
theorem VRs.drop {E : Env} {cs : List AV} {us : List Value} (h : VRs E cs us) (n : Nat) : VRs E (cs.drop n) (us.drop n) :=
  ⟨by simp [h.1], fun m c u h1 h2 => by
    rw [List.getElem?_drop] at h1 h2
    exact h.2 _ c u h1 h2⟩
theorem VRs.of_fz {E : Env} {cs : List AV} {us : List Value} (h : VRs E.fz cs us) : VRs E cs us := ⟨h.1, fun m c u h1 h2 => (h.2 m c u h1 h2).of_fz⟩
theorem VRs.of_ob {E : Env} {cs : List AV} {us : List Value} (h : VRs E.ob cs us) : VRs E cs us := ⟨h.1, fun m c u h1 h2 => (h.2 m c u h1 h2).of_ob⟩
theorem VRs.aggV {E : Env} {cs : List AV} {us : Array Value} (h : VRs E cs us.toList) : VR E (.agg cs) (.agg us) :=
  .agg us (by simpa using h.1) (fun m c u h1 h2 => h.2 m c u h1 (by simpa using h2))
theorem VR.aggI {E : Env} {cs : List AV} {u : Value} (h : VR E (.agg cs) u) : ∃ us : Array Value, u = .agg us ∧ VRs E cs us.toList := by
  cases h with
  | agg us h1 h2 => exact ⟨us, rfl, by simpa using h1, fun m c u hc hu => h2 m c u hc (by simpa using hu)⟩
theorem VR.tupI {E : Env} {cs : List AV} {u : Value} (h : VR E (.tup cs) u) : ∃ us : Array Value, u = .tuple us ∧ VRs E cs us.toList := by
  cases h with
  | tup us h1 h2 => exact ⟨us, rfl, by simpa using h1, fun m c u hc hu => h2 m c u hc (by simpa using hu)⟩
theorem VR.vI {E : Env} {x u : Value} (h : VR E (.v x) u) : u = x ∧ plain x = true := by
  cases h with
  | v _ _ hx => exact ⟨rfl, hx⟩

/-! ### Memory -/
/-- The rows of an object lie, element by element, in block b from cell o on. -/
def ArrR (E' : Env) (h : Array Obj) (rows : List (List AV)) (b o sz : Nat) : Prop :=
  0 < sz ∧ (∀ r ∈ rows, r.length = sz) ∧ ∃ (us : Array Value) (ty : TypeId), h[b]? = some (.cells us ty (0, 0)) ∧ o + rows.length * sz ≤ us.size ∧
    ∀ (m : Nat) (c : AV), rows.flatten[m]? = some c → ∃ u, us[o + m]? = some u ∧ VR E' c u

def envOf (E : Env) (fl : Bool) : Env := match fl with | true => E.fz | false => E.ob

def MapR (E : Env) (h : Array Obj) (fl : Bool) (es : List (AV × AV)) (b : Nat) : Prop :=
  ∃ (ms : Array MapEntry) (clock : Nat), h[b]? = some (.map ms clock) ∧ es.length = ms.size ∧
    ∀ (i : Nat) (e : AV × AV) (m : MapEntry), es[i]? = some e → ms[i]? = some m → toK e.1 = some m.key ∧ VR (envOf E fl) e.2 m.val

def ObR (E : Env) (x : Option Ob) (mv : Option MV) : Prop :=
  match x, mv with
  | some (.arr _ _ rows), some .virt => rows = []
  | some (.arr fl sz rows), some (.blk b o s n) => (s = sz ∧ n = rows.length) ∧ ArrR (envOf E fl) E.h rows b o s
  | some (.mapo fl es), some (.blk b _ _ _) => MapR E E.h fl es b
  | some .dead, none => True
  | none, none => True
  | _, _ => False

def LocR (pend : Nat → Option (List AV)) (E : Env) (x : Option (List AV)) (d : Nat) : Prop :=
  match x with
  | none => E.mu (.L d) = none
  | some row => (∃ b, E.mu (.L d) = some (.blk b 0 row.length 1) ∧ ArrR E E.h [row] b 0 row.length) ∨ (E.mu (.L d) = none ∧ pend d = some row)

structure Gh where
  w0 : World
  M : Nat → Prop
  F : Nat → Prop
  mu : Nat → Option MV

structure SimM (G : Gh) (pend : Nat → Option (List AV)) (E : Env) (S : St) (w : World) : Prop where
  hp : E.h = w.heap
  os : w.os = G.w0.os
  tape : w.tape = G.w0.tape
  output : w.output = G.w0.output
  size : G.w0.heap.size ≤ w.heap.size
  keep : ∀ b, b < G.w0.heap.size → ¬ G.M b → w.heap[b]? = G.w0.heap[b]?
  F0 : ∀ b, G.F b → E.F b
  Flt : ∀ b, E.F b → b < w.heap.size
  Fnew : ∀ b, E.F b → b < G.w0.heap.size → G.F b ∨ G.M b
  own : ∀ k b o s n, E.mu k = some (.blk b o s n) → ¬ E.F b ∧ b < w.heap.size ∧ (G.M b ∨ G.w0.heap.size ≤ b)
  inj : ∀ k k' b o s n o' s' n', E.mu k = some (.blk b o s n) → E.mu k' = some (.blk b o' s' n') → k = k'
  loc : ∀ d, LocR pend E (lookL S.l d) d
  obj : ∀ id, ObR E S.o[id]? (E.mu (.O id))
  old : ∀ id, id < S.b → S.o[id]? = some .dead ∨ E.mu (.O id) = G.mu id
  bl : S.b ≤ S.o.length
  szs : ∀ b, b < G.w0.heap.size → sizeH w.heap b = sizeH G.w0.heap b

/-- Slots. -/
structure TR (E : Env) (t : List AV) (a : Act) : Prop where
  len : t.length = a.tmps.size
  val : ∀ (n : Nat) (c : AV) (u : Value), t[n]? = some c → a.tmps[n]? = some u → VR E c u
  df : a.defers = []

theorem TR.mono {E E' : Env} {t : List AV} {a : Act} (h : TR E t a) (hl : LE E E') : TR E' t a := ⟨h.len, fun n c u h1 h2 => (h.val n c u h1 h2).mono hl, h.df⟩

/-! ### The evaluator's small steps, read -/
theorem Fail_elim {n : Nat} {p : Prop} (h : Fail n) : p := False.elim h
theorem Chk_elim {b : Bool} {X : Prop} (h : Chk b X) : b = true ∧ X := by
  cases b with
  | true => exact ⟨rfl, h⟩
  | false => exact False.elim h
theorem Chk_intro {b : Bool} {X : Prop} (hb : b = true) (h : X) : Chk b X := by subst hb; exact h
theorem Fork_elim {b : Bool} {X Y : Prop} (h : Fork b X Y) : (b = true ∧ X) ∨ (b = false ∧ Y) := by
  cases b with
  | true => exact .inl ⟨rfl, h⟩
  | false => exact .inr ⟨rfl, h⟩
theorem Fork_intro {b : Bool} {X Y : Prop} (hX : b = true → X) (hY : b = false → Y) : Fork b X Y := by
  cases b with
  | true => exact hX rfl
  | false => exact hY rfl
theorem forceA_iff {a : AV} {k : AV → Prop} : forceA a k ↔ k a := by cases a <;> exact Iff.rfl
theorem forceL_iff : ∀ {xs : List AV} {k : List AV → Prop}, forceL xs k ↔ k xs
  | [], _ => Iff.rfl
  | _ :: xs, _ => forceL_iff (xs := xs)
theorem forceAL_iff : ∀ {xs : List AV} {k : List AV → Prop}, forceAL xs k ↔ k xs
  | [], _ => Iff.rfl
  | x :: xs, k => by
    show forceA x _ ↔ _
    rw [forceA_iff]
    exact forceAL_iff (xs := xs)
theorem forceO_iff : ∀ {xs : List Ob} {k : List Ob → Prop}, forceO xs k ↔ k xs
  | [], _ => Iff.rfl
  | _ :: xs, _ => forceO_iff (xs := xs)
theorem forceLoc_iff : ∀ {xs : List (Nat × List AV)} {k : List (Nat × List AV) → Prop}, forceLoc xs k ↔ k xs
  | [], _ => Iff.rfl
  | (_, _) :: xs, _ => forceLoc_iff (xs := xs)
theorem forceRows_iff : ∀ {xs : List (List AV)} {k : List (List AV) → Prop}, forceRows xs k ↔ k xs
  | [], _ => Iff.rfl
  | x :: xs, k => by
    show forceL x _ ↔ _
    rw [forceL_iff]
    exact forceRows_iff (xs := xs)
theorem nthK_iff : ∀ {xs : List AV} {n : Nat} {k : AV → Prop}, nthK xs n k ↔ ∃ a, xs[n]? = some a ∧ k a
  | [], _, _ => ⟨fun h => False.elim h, fun ⟨a, h, _⟩ => by simp at h⟩
  | x :: xs, 0, k => ⟨fun h => ⟨x, rfl, h⟩, fun ⟨a, h, hk⟩ => by simp at h; subst h; exact hk⟩
  | x :: xs, n + 1, k => by
    show nthK xs n k ↔ _
    rw [nthK_iff]
    simp
theorem setK_iff : ∀ {xs : List AV} {n : Nat} {v : AV} {k : List AV → Prop}, setK xs n v k ↔ k (xs.set n v)
  | [], _, _, _ => Iff.rfl
  | _ :: xs, 0, _, _ => Iff.rfl
  | x :: xs, n + 1, v, k => by
    show setK xs n v _ ↔ _
    rw [setK_iff]
    rfl

def setT (S : St) (dst : Option Tmp) (a : AV) : St :=
  match dst with
  | none => S
  | some d => { t := S.t.set d a, l := S.l, o := S.o, b := S.b }
theorem putK_iff {dst : Option Tmp} {a : AV} {S : St} {K : St → Prop} : putK dst a S K ↔ K (setT S dst a) := by
  cases dst with
  | none => exact Iff.rfl
  | some d => exact setK_iff

theorem plain_ofC {c : Value} {E : Env} : VR E (ofC1 c) c := by
  unfold ofC1
  split <;> first
    | exact .v _ _ rfl
    | exact .nilp _
    | exact .nilsl _
    | exact .nilmap _
    | exact .nilfn _
    | exact .bad _ _
theorem VR_ofC (E : Env) (c : Value) : VR E (ofC c) c := by
  unfold ofC
  split
  · rename_i cs
    refine .agg cs (by simp) (fun m x u h1 h2 => ?_)
    simp only [List.getElem?_map, Array.getElem?_toList, Option.map_eq_some_iff] at h1
    obtain ⟨y, hy, rfl⟩ := h1
    rw [hy] at h2
    cases h2
    exact plain_ofC
  · exact plain_ofC

theorem getK_elim {S : St} {x : Operand} {k : AV → Prop} {E : Env} {a : Act} (h : getK S x k) (ht : TR E S.t a) : ∃ c, k c ∧ VR E c (a.eval x) := by
  unfold getK at h
  split at h
  · rename_i t
    obtain ⟨c, hc, hk⟩ := nthK_iff.1 h
    have hlt : t < a.tmps.size := by rw [← ht.len]; exact (List.getElem?_eq_some_iff.1 hc).1
    refine ⟨c, hk, ht.val t c _ hc ?_⟩
    simp [Act.eval, Array.getD, hlt]
  · rename_i c
    exact ⟨_, forceA_iff.1 h, VR_ofC E c⟩
  · rename_i f
    exact ⟨_, h, .fn #[] #[] rfl (fun m c u hc => by simp at hc) rfl (fun m c u hc => by simp at hc)⟩
  · exact False.elim h

theorem getsK_elim {S : St} {E : Env} {a : Act} (ht : TR E S.t a) : ∀ {xs : List Operand} {k : List AV → Prop}, getsK S xs k → ∃ cs, k cs ∧ VRs E cs (xs.map a.eval)
  | [], _, h => ⟨[], h, .nil _⟩
  | x :: xs, k, h => by
    obtain ⟨c, hk, hc⟩ := getK_elim h ht
    obtain ⟨cs, hk', hcs⟩ := getsK_elim ht hk
    exact ⟨c :: cs, hk', .cons hc hcs⟩

theorem TR.put {E : Env} {S : St} {a : Act} (h : TR E S.t a) {dst : Option Tmp} {c : AV} {u : Value} (hv : VR E c u) : TR E (setT S dst c).t (a.put dst u) := by
  cases dst with
  | none => exact h
  | some d =>
    refine ⟨by simp [setT, Act.put, h.len], fun n c' u' h1 h2 => ?_, h.df⟩
    simp only [setT, Act.put, List.getElem?_set, Array.getElem?_setIfInBounds] at h1 h2
    by_cases hd : d = n
    · subst hd
      simp only [if_true] at h1 h2
      split at h1
      · rename_i hl
        rw [if_pos (by rw [← h.len]; exact hl)] at h2
        cases h1; cases h2
        exact hv
      · cases h1
    · rw [if_neg hd] at h1 h2
      exact h.val n c' u' h1 h2

end A
end Go.Proofs.Ytnjpjmeoednfcaa
