/- What a slice holds; objects made and moved. -/
import Derived.Test.YtnjpjmeoednfcaaA21
namespace Go.Proofs.Ytnjpjmeoednfcaa
namespace A
open Go
open Go.RowKit (Below)

/-- A slice, and the cells of its elements. -/
def SlC (E : Env) (w : World) (_sz : Nat) (fl : Bool) (rows : List (List AV)) (u : Value) : Prop :=
  ∃ (A : Option Addr) (c : Nat) (us : List Value), u = .slice A rows.length c ∧ rows.length ≤ c ∧ VRs (envOf E fl) rows.flatten us ∧ (A = none → rows = []) ∧ ∀ a, A = some a → ∀ j v, us[j]? = some v → w.cell? (a.add j) = some v

theorem VRs.rowget {E : Env} {rows : List (List AV)} {us : List Value} {sz : Nat} (h : VRs E rows.flatten us) (hr : ∀ r ∈ rows, r.length = sz) {i r : Nat} {row : List AV} {c : AV} (h1 : rows[i]? = some row) (h2 : row[r]? = some c) :
    ∃ u, us[i * sz + r]? = some u ∧ VR E c u := by
  have hrl : r < sz := by rw [← hr row (List.mem_of_getElem? h1)]; exact (List.getElem?_eq_some_iff.1 h2).1
  exact h.get (by rw [flatten_get hr h1 hrl]; exact h2)

theorem ArrR.slc {E' : Env} {h : Array Obj} {rows : List (List AV)} {b o sz : Nat} (ha : ArrR E' h rows b o sz) : ∃ us, VRs E' rows.flatten us ∧ ∀ j v, us[j]? = some v → cellH h b (o + j) = some v := by
  obtain ⟨h0, hr, us, ty, hb, hl, hc⟩ := ha
  have hfl := flatten_len hr
  refine ⟨(us.toList.drop o).take (rows.length * sz), ⟨by rw [hfl]; simp; omega, fun m c u h1 h2 => ?_⟩, fun j v hv => ?_⟩
  · have hm : m < rows.length * sz := by rw [← hfl]; exact (List.getElem?_eq_some_iff.1 h1).1
    rw [List.getElem?_take, if_pos hm, List.getElem?_drop, Array.getElem?_toList] at h2
    obtain ⟨u', hu', hv⟩ := hc m c h1
    rw [hu'] at h2
    cases h2
    exact hv
  · rw [List.getElem?_take] at hv
    split at hv
    · rw [List.getElem?_drop, Array.getElem?_toList] at hv
      unfold cellH
      rw [hb]
      exact hv
    · cases hv

theorem SlC.empty {E : Env} {w : World} {sz : Nat} {fl : Bool} {A : Option Addr} {c : Nat} : SlC E w sz fl [] (.slice A 0 c) := ⟨A, c, [], rfl, Nat.zero_le _, .nil _, fun _ => rfl, fun _ _ j v h => by simp at h⟩

section
variable {G : Gh} {p : Nat → Option (List AV)} {E : Env} {S : St} {M : St} {w : World} {P : Program}

theorem ArrR.slC (hh : E.h = w.heap) {fl : Bool} {rows : List (List AV)} {b o sz c : Nat} (ha : ArrR (envOf E fl) E.h rows b o sz) (hc : rows.length ≤ c) : SlC E w sz fl rows (.slice (some ⟨b, o, none⟩) rows.length c) := by
  obtain ⟨us, h1, h2⟩ := ha.slc
  refine ⟨_, c, us, rfl, hc, h1, fun h => (by cases h), fun a he j v hv => ?_⟩
  cases he
  rw [add_none, cell_none, ← hh]
  exact h2 j v hv

/-- An object's slice. -/
theorem mf_slC (hM : SimM G p E M w) {id : Nat} {u : Value} {fl : Bool} {sz : Nat} {rows : List (List AV)} (ho : M.o[id]? = some (.arr fl sz rows)) (hx : VR E (.mf id) u) : SlC E w sz fl rows u ∧ ∀ r ∈ rows, r.length = sz := by
  rcases obj_arr hM ho with ⟨h1, h2⟩ | ⟨b, o, h1, h2⟩
  · subst h2
    refine ⟨?_, fun r hr => by cases hr⟩
    cases hx with
    | mfn hm => exact SlC.empty
    | mfe a hm => exact SlC.empty
    | mf cap hm _ _ => rw [h1] at hm; cases hm
  · refine ⟨?_, h2.2.1⟩
    cases hx with
    | mfn hm => rw [h1] at hm; cases hm
    | mfe a hm => rw [h1] at hm; cases hm
    | mf cap hm hn hc =>
      rw [h1] at hm
      cases hm
      exact h2.slC hM.hp hn

theorem drop_rows {E' : Env} {h : Array Obj} {rows : List (List AV)} {b o sz : Nat} (ha : ArrR E' h rows b o sz) {off len : Nat} (hl : off + len ≤ rows.length) : ArrR E' h ((rows.drop off).take len) b (o + off * sz) sz := by
  rcases ha.sub off len with h1 | h1
  · exact h1
  · obtain ⟨hsz, hr, us, ty, hb, hll, hc⟩ := ha
    rw [h1]
    refine ⟨hsz, fun r hr => (by cases hr), us, ty, hb, ?_, fun m c hc => (by simp at hc)⟩
    have : off * sz ≤ rows.length * sz := Nat.mul_le_mul_right _ (by omega)
    simp
    omega

theorem msl_slC (hM : SimM G p E M w) {id off len ext : Nat} {u : Value} {fl : Bool} {sz : Nat} {rows : List (List AV)} (ho : M.o[id]? = some (.arr fl sz rows)) (hx : VR E (.msl id off len ext) u) :
    SlC E w sz fl ((rows.drop off).take len) u ∧ ∀ r ∈ (rows.drop off).take len, r.length = sz := by
  rcases obj_arr hM ho with ⟨h1, h2⟩ | ⟨b, o, h1, h2⟩
  · subst h2
    refine ⟨?_, fun r hr => by simp at hr⟩
    cases hx with
    | msle off a hm => simpa using SlC.empty
    | msl off len ext cap hm _ _ _ => rw [h1] at hm; cases hm
  · refine ⟨?_, fun r hr => h2.2.1 r (List.mem_of_mem_drop (List.mem_of_mem_take hr))⟩
    cases hx with
    | msle off a hm => simpa using SlC.empty
    | msl off len ext cap hm h3 h4 h5 =>
      rw [h1] at hm
      cases hm
      have hlen : ((rows.drop off).take len).length = len := by simp; omega
      have := (drop_rows h2 (off := off) (len := len) (by omega)).slC hM.hp (c := cap) (by rw [hlen]; omega)
      rw [hlen] at this
      exact this

theorem sl_slC {rows : List (List AV)} {u : Value} {sz : Nat} (hM : SimM G p E M w) (hb : szOk sz rows = true) (hx : VR E (.sl rows) u) : SlC E w sz true rows u ∧ ∀ r ∈ rows, r.length = sz := by
  cases hx with
  | sln => exact ⟨SlC.empty, fun r hr => by cases hr⟩
  | sle a cap => exact ⟨SlC.empty, fun r hr => by cases hr⟩
  | sl us h1 h2 h3 h4 h5 h6 h7 =>
    refine ⟨⟨_, _, us, rfl, h7, ⟨h3.symm, h4⟩, fun h => (by cases h), fun a he j v hv => ?_⟩, ?_⟩
    · cases he
      rw [add_none, cell_none, ← hM.hp]
      exact h6 j v hv
    · cases rows with
      | nil => exact fun r hr => by cases hr
      | cons r rs =>
        have e1 := h2 r (by simp)
        have e2 := Nat.eq_of_beq_eq_true hb
        intro x hx
        rw [h2 x hx, ← e1, e2]

theorem rowsK_sound (hM : SimM G p E M w) {sz : Nat} {x : AV} {u : Value} {k : Bool → List (List AV) → Prop} (h : rowsK sz M x k) (hx : VR E x u) :
    ∃ fl src, k fl src ∧ (∀ r ∈ src, r.length = sz) ∧ (SlC E w sz fl src u ∨ ∃ s, u = .string s ∧ sz = 1 ∧ fl = true ∧ src.length = s.size ∧ VRs E.fz src.flatten (byteCells s)) := by
  unfold rowsK at h
  split at h
  · cases hx; exact ⟨_, _, h, fun r hr => (by cases hr), .inl SlC.empty⟩
  · cases hx <;> exact ⟨_, _, h, fun r hr => (by cases hr), .inl SlC.empty⟩
  · replace h := Chk_elim h; obtain ⟨hb, h⟩ := h
    obtain ⟨h1, h2⟩ := sl_slC hM hb hx
    exact ⟨_, _, h, h2, .inl h1⟩
  · split at h
    · rename_i fl sz' rows ho
      replace h := Chk_elim h; obtain ⟨hb, h⟩ := h
      have := Nat.eq_of_beq_eq_true hb
      subst this
      obtain ⟨h1, h2⟩ := mf_slC hM ho hx
      exact ⟨_, _, h, h2, .inl h1⟩
    · exact False.elim h
  · split at h
    · rename_i fl sz' rows ho
      replace h := Chk_elim h; obtain ⟨hb, h⟩ := h
      have := Nat.eq_of_beq_eq_true hb
      subst this
      obtain ⟨h1, h2⟩ := msl_slC hM ho hx
      exact ⟨_, _, h, h2, .inl h1⟩
    · exact False.elim h
  · rename_i s
    replace h := Chk_elim h; obtain ⟨hb, h⟩ := h
    obtain ⟨rfl, _⟩ := hx.vI
    refine ⟨_, _, h, fun r hr => ?_, .inr ⟨s, rfl, Nat.eq_of_beq_eq_true hb, rfl, ?_, ?_⟩⟩
    · obtain ⟨b, _, rfl⟩ := List.mem_map.1 hr
      exact (Nat.eq_of_beq_eq_true hb).symm
    · rw [List.length_map, Array.length_toList]; rfl
    · have : (s.data.toList.map fun b => [AV.v (.int .u8 b.toNat)]).flatten = s.data.toList.map fun b => AV.v (.int .u8 b.toNat) := by
        induction s.data.toList with
        | nil => rfl
        | cons a as ih => simp [ih]
      rw [this]
      refine ⟨by simp [byteCells], fun m c u h1 h2 => ?_⟩
      unfold byteCells at h2
      rw [List.getElem?_map, Option.map_eq_some_iff] at h1 h2
      obtain ⟨b1, h3, rfl⟩ := h1
      obtain ⟨b2, h4, rfl⟩ := h2
      rw [h3] at h4
      cases h4
      exact .v _ _ rfl
  · exact False.elim h

theorem SlC.first {sz : Nat} {fl : Bool} {rows : List (List AV)} {u : Value} (h : SlC E w sz fl rows u) (hr : ∀ r ∈ rows, r.length = sz) :
    ∃ (A : Option Addr) (c : Nat) (us : List Value), u = .slice A rows.length c ∧ rows.length ≤ c ∧ VRs (envOf E fl) rows.flatten us ∧ (A = none → rows = []) ∧ us.length = rows.length * sz ∧
      (∀ w' : World, w'.heap = w.heap → (Builtin.firstCells sz rows.length u).run P w' = .ok us.toArray w') := by
  obtain ⟨A, c, us, rfl, h1, h2, h3, h4⟩ := h
  have hul : us.length = rows.length * sz := by rw [← h2.1, flatten_len hr]
  refine ⟨A, c, us, rfl, h1, h2, h3, hul, fun w' hw => ?_⟩
  cases A with
  | none =>
    have := h3 rfl
    subst this
    have : us = [] := List.eq_nil_of_length_eq_zero (by simpa using hul)
    subst this
    exact run_firstCells_none w' sz 0 0 c
  | some a =>
    refine run_firstCells_some w' sz rows.length a rows.length c us hul (fun j v hv => ?_)
    have := h4 a rfl j v hv
    unfold World.cell? at this ⊢
    rw [hw]
    exact this

theorem okRows_one {src : List (List AV)} {us : List Value} {E' : Env} (h : okRows src = true) (hv : VRs E' src.flatten us) : ∀ u ∈ us, u.oneCell' = true := by
  intro u hu
  obtain ⟨m, hm, hmv⟩ := List.getElem_of_mem hu
  have hmc : m < src.flatten.length := by rw [hv.1]; exact hm
  have hok : okCell src.flatten[m] = true := by
    have hmem := List.getElem_mem hmc
    obtain ⟨r, hr, hx⟩ := List.mem_flatten.1 hmem
    exact List.all_eq_true.1 (List.all_eq_true.1 h r hr) _ hx
  have := okCell_val hok (hv.2 m _ u (List.getElem?_eq_getElem hmc) (by rw [← hmv]; exact List.getElem?_eq_getElem hm))
  revert this
  cases u <;> exact fun h => h

/-- What is appended. -/
theorem src_of {sz : Nat} {fl : Bool} {src : List (List AV)} {u : Value} {tx : TypeId} (hk : (∃ e', P.underlying tx = some (.slice e')) ∨ P.underlying tx = some .string) (hr : ∀ r ∈ src, r.length = sz) (hok : okRows src = true)
    (h : SlC E w sz fl src u ∨ ∃ s, u = .string s ∧ sz = 1 ∧ fl = true ∧ src.length = s.size ∧ VRs E.fz src.flatten (byteCells s)) : ∃ news, Src P sz tx u src.length news w ∧ VRs (envOf E fl) src.flatten news := by
  rcases h with h | ⟨s, rfl, rfl, rfl, h4, h5⟩
  · obtain ⟨A, c, us, rfl, h1, h2, h3, h4, h5⟩ := h.first (P := P) hr
    exact ⟨us, ⟨hk, fun _ => rfl, h5 w rfl, h5 w.drew rfl, h4, okRows_one hok h2⟩, h2⟩
  · refine ⟨_, ⟨hk, fun w' => ?_, ?_, ?_, ?_, ?_⟩, h5⟩
    · show Result.ok _ _ = _
      rw [h4]
    · rw [h4]; exact firstCells_string s w
    · rw [h4]; exact firstCells_string s w.drew
    · rw [byteCells_length, h4, Nat.mul_one]
    · exact okRows_one hok h5

/-- A new object in a world with new blocks. -/
theorem made_sound (hM : SimM G pn E S w) {a : Act} (ht : TR E S.t a) {w' : World} (hos : w'.os = w.os) (htp : w'.tape = w.tape) (hou : w'.output = w.output) (hsz : w.heap.size ≤ w'.heap.size)
    (hoth : ∀ b', b' < w.heap.size → w'.heap[b']? = w.heap[b']?) {ob : Ob} {mv : MV} (hmv : mv = .virt ∨ ∃ b' o s n, mv = .blk b' o s n ∧ b' < w'.heap.size ∧ w.heap.size ≤ b')
    (hO : ∀ E', LE E E' → E'.h = w'.heap → ObR E' (some ob) (some mv)) :
    ∃ E', SimM G pn E' { t := S.t, l := S.l, o := S.o ++ [ob], b := S.b } w' ∧ TR E' S.t a ∧ E'.mu (.O S.o.length) = some mv ∧ E'.h = w'.heap ∧ LE E E' := by
  obtain ⟨hle2, hS2⟩ := hM.freestep (b := w.heap.size) hos htp hou hsz (fun b' h _ => hoth b' h) (fun h => by omega) ⟨fun h => by have := hM.Flt _ h; omega, fun k o s n h => by have := (hM.own _ _ _ _ _ h).2.1; omega, .inr hM.size⟩
  have hk := newid hM
  have hle3 : LE ⟨E.F, E.mu, w'.heap⟩ ⟨E.F, addMu E.mu (.O S.o.length) mv, w'.heap⟩ := addMu_le (E := ⟨E.F, E.mu, w'.heap⟩) hk
  have hS3 := hS2.addkey (key := .O S.o.length) (mv := mv) hk (fun b o s n h => by
      rcases hmv with h1 | ⟨b1, o1, s1, n1, h1, h2, h3⟩
      · rw [h1] at h; cases h
      · rw [h1] at h
        cases h
        refine ⟨fun h' => by have := hM.Flt _ h'; omega, h2, .inr (Nat.le_trans hM.size h3), fun k o' s' n' h' => by have := (hM.own _ _ _ _ _ h').2.1; omega⟩)
    (M' := { t := S.t, l := S.l, o := S.o ++ [ob], b := S.b }) (fun _ _ => rfl)
    (fun id he => by
      show (S.o ++ [_])[id]? = _
      rcases Nat.lt_trichotomy id S.o.length with h1 | h1 | h1
      · rw [List.getElem?_append_left h1]
      · exact absurd (by rw [h1]) he
      · rw [List.getElem?_eq_none (by simp; omega), List.getElem?_eq_none (by omega)]) rfl (by have := hM.bl; simp; omega) (fun id he => by cases he; exact hM.bl)
    (fun d he => by cases he)
    (fun id he => by
      cases he
      show ObR _ (S.o ++ [_])[S.o.length]? _
      rw [List.getElem?_append_right (Nat.le_refl _), Nat.sub_self]
      exact hO _ (hle2.trans hle3) rfl)
  exact ⟨_, hS3, (ht.mono hle2).mono hle3, by show addMu _ _ _ _ = _; unfold addMu; rw [if_pos rfl], rfl, hle2.trans hle3⟩

theorem ObR.moved {E' : Env} {k : Key} {fl : Bool} {rows : List (List AV)} {b o sz n : Nat} (hk : KE k E E') (ha : ArrR (envOf E fl) E'.h rows b o sz) (hn : n = rows.length) : ObR E' (some (killOb k (.arr fl sz rows))) (some (.blk b o sz n)) := by
  subst hn
  cases fl with
  | true => exact ⟨⟨rfl, rfl⟩, ha.mono hk.fz⟩
  | false => exact ⟨⟨rfl, by simp⟩, ArrR.kill (E := E.ob) (E' := E'.ob) ha hk.ob rfl⟩

/-- Rows laid upon rows. -/
theorem ArrR.put {E1 : Env} {h' : Array Obj} {rows src rows' : List (List AV)} {b o sz pp : Nat} {news : List Value} {us : Array Value} {ty : TypeId} (h0 : 0 < sz) (hr : ∀ r ∈ rows, r.length = sz) (hrs : ∀ r ∈ src, r.length = sz)
    (hc : ∀ (i : Nat) (row : List AV) (r : Nat) (c : AV), rows[i]? = some row → row[r]? = some c → ∃ u, us[o + i * sz + r]? = some u ∧ VR E1 c u)
    (hnew : VRs E1 src.flatten news) (hl : o + rows'.length * sz ≤ us.size)
    (hrows : ∀ i, rows'[i]? = if pp ≤ i ∧ i < pp + src.length then src[i - pp]? else rows[i]?) (hb' : h'[b]? = some (.cells (setAll us (o + pp * sz) news 0) ty (0, 0))) : ArrR E1 h' rows' b o sz := by
  have hnl : news.length = src.length * sz := by rw [← hnew.1, flatten_len hrs]
  refine ArrR.of_rows h0 (fun r hx => ?_) hb' (by rw [setAll_size]; exact hl) (fun i row r c h1 h2 => ?_)
  · obtain ⟨i, hi⟩ := List.getElem?_of_mem hx
    rw [hrows] at hi
    split at hi
    · exact hrs r (List.mem_of_getElem? hi)
    · exact hr r (List.mem_of_getElem? hi)
  · rw [hrows] at h1
    rw [setAll_get]
    simp only [Nat.add_zero]
    split at h1
    · rename_i hin
      have hrl : r < sz := by rw [← hrs row (List.mem_of_getElem? h1)]; exact (List.getElem?_eq_some_iff.1 h2).1
      obtain ⟨u, hu, hv⟩ := hnew.rowget hrs h1 h2
      have e1 : pp * sz + (i - pp) * sz = i * sz := by rw [← Nat.add_mul]; congr 1; omega
      have e2 : (i - pp) * sz + sz ≤ src.length * sz := by rw [← Nat.succ_mul]; exact Nat.mul_le_mul_right sz (by omega)
      have hil : i * sz + sz ≤ rows'.length * sz := by
        have : i < rows'.length := by
          have : rows'[i]? = some row := by rw [hrows, if_pos hin]; exact h1
          exact (List.getElem?_eq_some_iff.1 this).1
        rw [← Nat.succ_mul]; exact Nat.mul_le_mul_right sz this
      refine ⟨u, ?_, hv⟩
      rw [if_pos (by omega), show o + i * sz + r - (o + pp * sz) = (i - pp) * sz + r by omega]
      exact hu
    · rename_i hin
      have hrl : r < sz := by rw [← hr row (List.mem_of_getElem? h1)]; exact (List.getElem?_eq_some_iff.1 h2).1
      obtain ⟨u, hu, hv⟩ := hc i row r c h1 h2
      refine ⟨u, ?_, hv⟩
      rw [if_neg (by
        rw [hnl]
        have e : i < pp ∨ pp + src.length ≤ i := by omega
        rcases e with e | e
        · have : i * sz + sz ≤ pp * sz := by rw [← Nat.succ_mul]; exact Nat.mul_le_mul_right sz e
          omega
        · have : (pp + src.length) * sz ≤ i * sz := Nat.mul_le_mul_right sz e
          rw [Nat.add_mul] at this
          omega)]
      exact hu
end

end A
end Go.Proofs.Ytnjpjmeoednfcaa
