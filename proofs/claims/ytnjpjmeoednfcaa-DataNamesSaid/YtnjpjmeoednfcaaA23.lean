/- append, as a step. -/
import Derived.Test.YtnjpjmeoednfcaaA22
import Derived.Deep.Upon
namespace Go.Proofs.Ytnjpjmeoednfcaa
namespace A
open Go
open Go.RowKit (Below)

theorem flags {E : Env} {fl fl' : Bool} (h : (fl || !fl') = true) : envOf E (fl' && fl) = envOf E fl' ∧ ∀ {cs : List AV} {us : List Value}, VRs (envOf E fl) cs us → VRs (envOf E (fl' && fl)) cs us := by
  cases fl' with
  | true =>
    have : fl = true := by simpa using h
    subst this
    exact ⟨rfl, fun h => h⟩
  | false =>
    refine ⟨rfl, fun {cs us} h => ?_⟩
    cases fl with
    | false => exact h
    | true => exact ⟨h.1, fun m c u h1 h2 => (h.2 m c u h1 h2).fz_ob⟩

theorem zeroCells_size (z : Array Value) (n : Nat) : (Builtin.zeroCells z n).size = n * z.size := by simp [Builtin.zeroCells]

section
variable {G : Gh} {E : Env} {S : St} {w : World} {P : Program} {o : Oper} {a : Act}

theorem grow_run {t0 t1 ty e : TypeId} {i : TypeInfo} (hu : P.underlying t0 = some (.slice e)) (hi : P.info? e = some i) (hb0 : 0 < i.bytes) (hz : zOk i = true) {A : Option Addr} {L c n : Nat} {olds news : List Value} {ux : Value}
    (hold : (Builtin.firstCells i.size L (.slice A L c)).run P w.drew = .ok olds.toArray w.drew) (hol : olds.length = L * i.size) (hs : Src P i.size t1 ux n news w) (hg : c < L + n) (hbd : (L + n) * i.bytes ≤ 140737488355328) :
    ∃ us' g w', (Builtin.append_ #[t0, t1] ty #[.slice A L c, ux]).run P w = .ok (.slice (some ⟨w.heap.size, 0, none⟩) (L + n) g) w' ∧ w'.heap = w.heap.push (.cells us' e) ∧ w'.os = w.os ∧ w'.tape = w.tape ∧ w'.output = w.output ∧
      us'.size = g * i.size ∧ L + n ≤ g ∧ ∀ (m : Nat) (v : Value), (olds ++ news)[m]? = some v → us'[m]? = some v := by
  unfold zOk at hz
  split at hz
  · rename_i z hzz
    have hzs : z.cells.size = i.size := Nat.eq_of_beq_eq_true hz
    have hle : L + n ≤ (L + n) * i.bytes := Nat.le_mul_of_pos_right _ hb0
    have := run_append_grow_src (P := P) w t0 t1 ty e i z hu hi hzz A L c olds hold ux n news hs hg (by omega) (growslice_fits hg hbd)
    have hge := grownCap_ge w (L + n) c e
    refine ⟨_, _, _, this, rfl, rfl, rfl, rfl, ?_, hge, fun m v hv => ?_⟩
    · rw [Array.size_append, zeroCells_size, hzs]
      simp only [List.size_toArray, List.length_append, hol, hs.newsLen]
      rw [← Nat.add_mul, ← Nat.add_mul]
      congr 1
      omega
    · have hm := (List.getElem?_eq_some_iff.1 hv).1
      rw [Array.getElem?_append_left (by simpa using hm)]
      simpa using hv
  · cases hz

theorem room_run {t0 t1 ty e : TypeId} {i : TypeInfo} (hu : P.underlying t0 = some (.slice e)) (hi : P.info? e = some i) {b off L c n : Nat} {news : List Value} {ux : Value} {us : Array Value} {tb : TypeId}
    (hs : Src P i.size t1 ux n news w) (hroom : L + n ≤ c) (hb : w.heap[b]? = some (.cells us tb (0, 0))) (hl : off + (L + n) * i.size ≤ us.size) :
    (Builtin.append_ #[t0, t1] ty #[.slice (some ⟨b, off, none⟩) L c, ux]).run P w = .ok (.slice (some ⟨b, off, none⟩) (L + n) c) (setBlk w b (.cells (setAll us (off + L * i.size) news 0) tb (0, 0))) := by
  have hst := run_storeCells (P := P) (b := b) (off := off + L * i.size) news 0 hb (fun v hv => by
    have := hs.one v hv
    revert this
    cases v <;> exact fun h => h) (by rw [hs.newsLen]; rw [Nat.add_mul] at hl; omega)
  rcases hs.kind with ⟨e', hk⟩ | hk <;> simp [Builtin.append_, run_underlying hu, run_underlying hk, sizeOf, typeInfo, hi, hs.len, hroom, hs.cells, Addr.add_lit, hst]

/-- What an append must come to. -/
def AppOut (P : Program) (G : Gh) (w : World) (a : Act) (m : Sem Value) (k : St → AV → Prop) : Prop :=
  ∃ S' r z w' E', k S' r ∧ m.run P w = .ok z w' ∧ SimM G pn E' S' w' ∧ TR E' S'.t a ∧ VR E' r z

theorem arr_of_olds {E' : Env} {h : Array Obj} {rows src : List (List AV)} {olds news : List Value} {sz b n g : Nat} {us' : Array Value} {e : TypeId} (h0 : 0 < sz) (hr : ∀ r ∈ rows, r.length = sz) (hrs : ∀ r ∈ src, r.length = sz)
    (ho : VRs E' rows.flatten olds) (hn : VRs E' src.flatten news) (hb : h[b]? = some (.cells us' e)) (hg : rows.length + src.length ≤ g) (hsz : us'.size = g * sz) (hget : ∀ (m : Nat) (v : Value), (olds ++ news)[m]? = some v → us'[m]? = some v) (hnn : n = rows.length + src.length) :
    ArrR E' h (rows ++ src) b 0 sz ∧ n = (rows ++ src).length := by
  refine ⟨⟨h0, fun r hx => ?_, us', e, hb, ?_, fun m c hc => ?_⟩, by simp [hnn]⟩
  · rcases List.mem_append.1 hx with hx | hx
    · exact hr r hx
    · exact hrs r hx
  · rw [List.length_append, hsz, Nat.zero_add]
    exact Nat.mul_le_mul_right _ hg
  · rw [List.flatten_append] at hc
    obtain ⟨u, hu, hv⟩ := (ho.append hn).get hc
    exact ⟨u, by rw [Nat.zero_add]; exact hget m u hu, hv⟩

section
variable {t0 t1 ty e : TypeId} {i : TypeInfo} {id : Nat} {fl fl' : Bool} {rows src : List (List AV)} {news : List Value} {ub ux : Value} {k : St → AV → Prop}

/-- An object that grows, moving. -/
theorem case_grow (hM : SimM G pn E S w) (ht : TR E S.t a) (hu : P.underlying t0 = some (.slice e)) (hi : P.info? e = some i) (h0 : 0 < i.size) (hb0 : 0 < i.bytes) (hz : zOk i = true) (hid : id < S.o.length) (hfl : (fl || !fl') = true)
    (hr : ∀ r ∈ rows, r.length = i.size) (hrs : ∀ r ∈ src, r.length = i.size) {A : Option Addr} {c : Nat} {olds : List Value} (hub : ub = .slice A rows.length c) (ho : VRs (envOf E fl') rows.flatten olds)
    (hold : (Builtin.firstCells i.size rows.length ub).run P w.drew = .ok olds.toArray w.drew) (hs : Src P i.size t1 ux src.length news w) (hn : VRs (envOf E fl) src.flatten news) (hg : c < rows.length + src.length)
    (hbd : (rows.length + src.length) * i.bytes ≤ 140737488355328) (h : growK S id (.arr (fl' && fl) i.size (rows ++ src)) fun S' id' => k S' (.mf id')) : AppOut P G w a (Builtin.append_ #[t0, t1] ty #[ub, ux]) k := by
  subst hub
  obtain ⟨us', g, w', hrun, hheap, hos, htp, hou, hsz, hge, hget⟩ := grow_run (ty := ty) hu hi hb0 hz hold (by rw [← ho.1, flatten_len hr]) hs hg hbd
  rw [growK_iff] at h
  obtain ⟨e1, e2⟩ := flags (E := E) hfl
  have hnb : w'.heap[w.heap.size]? = some (.cells us' e) := by rw [hheap]; exact push_get w _
  obtain ⟨ha, hlen⟩ := arr_of_olds (E' := envOf E (fl' && fl)) (h := w'.heap) h0 hr hrs (by rw [e1]; exact ho) (e2 hn) hnb hge hsz hget rfl
  obtain ⟨E', h1, h2, h3, h4, h5⟩ := moved_sound hM ht hid (w' := w') (b := w.heap.size) hos htp hou (by rw [hheap]; simp) (fun b' hb' _ => by rw [hheap, Array.getElem?_push, if_neg (by omega)]) (fun h => by omega) (.inr rfl)
    (ob := killOb (.O id) (.arr (fl' && fl) i.size (rows ++ src))) (mv := .blk w.heap.size 0 i.size (rows.length + src.length)) (.inr ⟨_, _, _, _, rfl, by rw [hheap]; simp, .inl rfl⟩)
    (fun E' hk hh => ObR.moved hk (by rw [hh]; exact ha) hlen)
  refine ⟨_, _, _, _, E', h, hrun, h1, h2, .mf g h3 hge ?_⟩
  rw [h4]
  unfold sizeH
  rw [hnb]
  simp [hsz]

/-- An object that grows where it lies. -/
theorem case_room (hM : SimM G pn E S w) (ht : TR E S.t a) (hu : P.underlying t0 = some (.slice e)) (hi : P.info? e = some i) (h0 : 0 < i.size) (hid : id < S.o.length) (hfl : (fl || !fl') = true)
    (hrs : ∀ r ∈ src, r.length = i.size) {b off c : Nat} (hub : ub = .slice (some ⟨b, off, none⟩) rows.length c) (ha : ArrR (envOf E fl') E.h rows b off i.size) (hc : off + c * i.size ≤ sizeH E.h b)
    (hmu : ∃ o s n, E.mu (.O id) = some (.blk b o s n)) (hs : Src P i.size t1 ux src.length news w) (hn : VRs (envOf E fl) src.flatten news) (hg : rows.length + src.length ≤ c)
    (h : growK S id (.arr (fl' && fl) i.size (rows ++ src)) fun S' id' => k S' (.mf id')) : AppOut P G w a (Builtin.append_ #[t0, t1] ty #[ub, ux]) k := by
  subst hub
  obtain ⟨us, tb, hblk, hl, hget⟩ := ha.get
  rw [hM.hp] at hblk hc
  have hcs : off + c * i.size ≤ us.size := by unfold sizeH at hc; rw [hblk] at hc; exact hc
  have hcm : (rows.length + src.length) * i.size ≤ c * i.size := Nat.mul_le_mul_right _ hg
  have hrun := room_run (ty := ty) (off := off) hu hi hs hg hblk (by omega)
  have hblt : b < w.heap.size := (Array.getElem?_eq_some_iff.1 hblk).1
  rw [growK_iff] at h
  obtain ⟨e1, e2⟩ := flags (E := E) hfl
  have hnb := heap_setBlk (ob := .cells (setAll us (off + rows.length * i.size) news 0) tb (0, 0)) hblt
  have harr : ArrR (envOf E (fl' && fl)) (setBlk w b (.cells (setAll us (off + rows.length * i.size) news 0) tb (0, 0))).heap (rows ++ src) b off i.size :=
    ArrR.put (pp := rows.length) h0 ha.2.1 hrs (by rw [e1]; exact hget) (e2 hn) (by rw [List.length_append]; omega) (fun j => by
      by_cases hj : j < rows.length
      · rw [List.getElem?_append_left hj, if_neg (by omega)]
      · rw [List.getElem?_append_right (by omega)]
        by_cases hj2 : j < rows.length + src.length
        · rw [if_pos ⟨by omega, hj2⟩]
        · rw [if_neg (by omega), List.getElem?_eq_none (by omega), List.getElem?_eq_none (by omega)]) hnb
  obtain ⟨E', h1, h2, h3, h4, h5⟩ := moved_sound hM ht hid (w' := setBlk w b (.cells (setAll us (off + rows.length * i.size) news 0) tb (0, 0))) (b := b) rfl rfl rfl (by simp [setBlk])
    (fun b' hb' hne => by
      simp only [setBlk, Array.getElem?_setIfInBounds]
      rw [if_neg (fun e => hne e.symm)]) (fun _ => by
      unfold sizeH
      rw [hnb, hblk]
      simp [setAll_size]) (.inl hmu)
    (ob := killOb (.O id) (.arr (fl' && fl) i.size (rows ++ src))) (mv := .blk b off i.size (rows.length + src.length)) (.inr ⟨_, _, _, _, rfl, by simpa [setBlk] using hblt, .inl rfl⟩)
    (fun E' hk hh => ObR.moved hk (by rw [hh]; exact harr) (by simp))
  refine ⟨_, _, _, _, E', h, hrun, h1, h2, .mf c h3 hg ?_⟩
  rw [h4]
  unfold sizeH
  rw [hnb]
  simpa [setAll_size] using hcs

/-- An empty object that stays empty. -/
theorem case_same (hM : SimM G pn E S w) (ht : TR E S.t a) (hu : P.underlying t0 = some (.slice e)) (hi : P.info? e = some i) (hid : id < S.o.length) {A : Option Addr} (hub : ub = .slice A 0 0) (hs : Src P i.size t1 ux 0 news w)
    {f : Bool} (h : growK S id (.arr f i.size []) fun S' id' => k S' (.mf id')) : AppOut P G w a (Builtin.append_ #[t0, t1] ty #[ub, ux]) k := by
  subst hub
  have hnews : news = [] := List.eq_nil_of_length_eq_zero (by rw [hs.newsLen]; simp)
  subst hnews
  have hrun := run_append_nothing (P := P) w t0 t1 ty e i hu hi A 0 0 (Nat.le_refl _) ux hs
  rw [growK_iff] at h
  obtain ⟨E', h1, h2, h3, h4, h5⟩ := moved_sound hM ht hid (w' := w) (b := w.heap.size) rfl rfl rfl (Nat.le_refl _) (fun b' hb' _ => rfl) (fun _ => rfl) (.inr rfl)
    (ob := killOb (.O id) (.arr f i.size [])) (mv := .virt) (.inl rfl) (fun E' hk hh => by cases f <;> exact rfl)
  refine ⟨_, _, _, _, E', h, hrun, h1, h2, ?_⟩
  cases A with
  | none => exact .mfn h3
  | some a => exact .mfe a h3

/-- A new object. -/
theorem case_fresh (hM : SimM G pn E S w) (ht : TR E S.t a) (hu : P.underlying t0 = some (.slice e)) (hi : P.info? e = some i) (h0 : 0 < i.size) (hb0 : 0 < i.bytes) (hz : zOk i = true) (hrs : ∀ r ∈ src, r.length = i.size)
    {A : Option Addr} (hub : ub = .slice A 0 0) (hs : Src P i.size t1 ux src.length news w) (hn : VRs (envOf E fl) src.flatten news)
    (hbd : src.length * i.bytes ≤ 140737488355328) (h : k { t := S.t, l := S.l, o := S.o ++ [.arr fl i.size src], b := S.b } (.mf S.o.length)) : AppOut P G w a (Builtin.append_ #[t0, t1] ty #[ub, ux]) k := by
  subst hub
  by_cases hsrc : src = []
  · subst hsrc
    have hnews : news = [] := List.eq_nil_of_length_eq_zero (by rw [hs.newsLen]; simp)
    subst hnews
    have hrun := run_append_nothing (P := P) w t0 t1 ty e i hu hi A 0 0 (Nat.le_refl _) ux hs
    obtain ⟨E', h1, h2, h3, h4, h5⟩ := made_sound hM ht (w' := w) rfl rfl rfl (Nat.le_refl _) (fun b' hb' => rfl) (ob := .arr fl i.size []) (mv := .virt) (.inl rfl) (fun E' hk hh => rfl)
    refine ⟨_, _, _, _, E', h, hrun, h1, h2, ?_⟩
    cases A with
    | none => exact .mfn h3
    | some a => exact .mfe a h3
  · have hpos : 0 < src.length := List.length_pos_iff.2 hsrc
    have hold : (Builtin.firstCells i.size 0 (.slice A 0 0)).run P w.drew = .ok ([] : List Value).toArray w.drew := by
      cases A with
      | none => exact run_firstCells_none w.drew i.size 0 0 0
      | some a => exact run_firstCells_some w.drew i.size 0 a 0 0 [] (by simp) (by intro _ _ h'; simp at h')
    obtain ⟨us', g, w', hrun, hheap, hos, htp, hou, hsz, hge, hget⟩ := grow_run (ty := ty) (L := 0) (c := 0) hu hi hb0 hz hold (by simp) hs (by omega) (by simpa using hbd)
    have hnb : w'.heap[w.heap.size]? = some (.cells us' e) := by rw [hheap]; exact push_get w _
    obtain ⟨ha, hlen⟩ := arr_of_olds (E' := envOf E fl) (h := w'.heap) (rows := []) (olds := []) h0 (fun r hr => by cases hr) hrs (.nil _) hn hnb (by simpa using hge) hsz hget rfl
    obtain ⟨E', h1, h2, h3, h4, h5⟩ := made_sound hM ht (w' := w') hos htp hou (by rw [hheap]; simp) (fun b' hb' => by rw [hheap, Array.getElem?_push, if_neg (by omega)])
      (ob := .arr fl i.size src) (mv := .blk w.heap.size 0 i.size (0 + src.length)) (.inr ⟨_, _, _, _, rfl, by rw [hheap]; simp, Nat.le_refl _⟩)
      (fun E' hle hh => ⟨⟨rfl, by simp⟩, by
        rw [hh]
        cases fl with
        | true => exact ha.mono hle.fz
        | false => exact ha.mono hle.ob⟩)
    refine ⟨_, _, _, _, E', h, hrun, h1, h2, .mf g h3 hge ?_⟩
    rw [h4]
    unfold sizeH
    rw [hnb]
    simp [hsz]
end

end

end A
end Go.Proofs.Ytnjpjmeoednfcaa
