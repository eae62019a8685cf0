/- slices.Sorted over the keys of maps: a contract (Collect and Sorted: after the guide's worked proofs GgCollectAtTheDump and GgSortedAtTheDump). -/
import Derived.Test.YtcckeabholabcaaIT
import Derived.Test.YtcckeabholabcaaKT
import Derived.Test.YtcckeabholabcaaS4
namespace Go.Proofs.Ytcckeabholabcaa
namespace A
open Go Go.Proofs
open Go.RowKit Go.Maps Go.Sort

def pW : List (AV × AV) → Option (List Int)
  | [] => some []
  | (.v (.int .u64 x), _) :: es => match pW es with
    | some xs => some (x :: xs)
    | none => none
  | _ :: _ => none
theorem nq : ∀ {es : List (AV × AV)} {xs : List Int}, pW es = some xs → es.length = xs.length ∧ ∀ (i : Nat) (e : AV × AV), es[i]? = some e → ∃ x : Int, xs[i]? = some x ∧ e.1 = .v (.int .u64 x)
  | [], xs, h => by cases h; exact ⟨rfl, fun i e h => by simp at h⟩
  | (k, v) :: es, xs, h => by
    unfold pW at h
    split at h
    · rename_i he
      cases he
    · rename_i x _ es' he
      cases he
      split at h
      · rename_i xs' hx
        cases h
        obtain ⟨h1, h2⟩ := nq hx
        refine ⟨by simp [h1], fun i e he => ?_⟩
        cases i with
        | zero => simp at he; subst he; exact ⟨x, rfl, rfl⟩
        | succ i => exact h2 i e (by simpa using he)
      · cases h
    · cases h
theorem uI {es : List (AV × AV)} {xs : List Int} {ms : Array MapEntry} (h : pW es = some xs) (hl : es.length = ms.size) (hk : ∀ (i : Nat) (e : AV × AV) (m : MapEntry), es[i]? = some e → ms[i]? = some m → rL e.1 = some m.key) (hn : xs.Nodup) (hw : ∀ x ∈ xs, (Lit.int .u64 x).wf = true) : rX ms xs := by
  obtain ⟨h1, h2⟩ := nq h
  refine ⟨?_, hn, hw⟩
  apply List.ext_getElem?
  intro i
  rw [List.getElem?_map, List.getElem?_map, Array.getElem?_toList]
  by_cases hi : i < es.length
  · have he : es[i]? = some es[i] := List.getElem?_eq_getElem hi
    have hm : ms[i]? = some ms[i] := Array.getElem?_eq_getElem (by omega)
    obtain ⟨x, hx, e1⟩ := h2 i _ he
    have hkey := hk i _ _ he hm
    rw [e1] at hkey
    simp only [rL, Option.some.injEq] at hkey
    rw [hm, hx]
    simp only [Option.map_some, ← hkey]
  · rw [Array.getElem?_eq_none (by omega), List.getElem?_eq_none (by omega)]
    rfl

def ip (xs : List Int) : List (List AV) := xs.map fun x => [.v (.int .u64 x)]
theorem oP (xs : List Int) : (ip xs).flatten = xs.map fun x => .v (.int .u64 x) := by
  induction xs with
  | nil => rfl
  | cons x xs ih =>
    show [.v (.int .u64 x)] ++ (ip xs).flatten = _
    rw [ih]
    rfl
theorem nr (xs : List Int) : (ip xs).length = xs.length := by simp [ip]
theorem wM {xs : List Int} : ∀ r ∈ ip xs, r.length = 1 := by
  intro r hr
  obtain ⟨x, _, rfl⟩ := List.mem_map.1 hr
  rfl

/-- slices.Sort makes these numbers those. -/
def xX (xs ys : List Int) : Prop := ku Try.prog 58 [.mf 0] [.arr true 1 (ip xs)] fun r o' => r = .tup [] ∧ o' = [.arr true 1 (ip ys)]

theorem CP {ss ys : List Int} (h : xX ss ys) {F : Nat → Prop} {W : World} (hF : ∀ b, F b → b < W.heap.size) (hg : sB ⟨F, fun _ => none, W.heap⟩) {gb cap : Nat} {ty : TypeId} {cur : Array Value}
    (hgb : W.heap[gb]? = some (.cells cur ty (0, 0))) (hnF : ¬ F gb) (hc : cur.size = cap * 1) (hl : ss.length ≤ cap) (ht : cur.toList.take (ss.length * 1) = ss.map gf) :
    Calls Try.prog 58 #[.slice (some ⟨gb, 0, none⟩) ss.length cap] W fun e w' => e = .returned (.tuple #[]) ∧ ∃ cur' ty', w'.heap[gb]? = some (.cells cur' ty' (0, 0)) ∧ cur'.size = cap * 1 ∧ (∀ (m : Nat) (c : Int), ys[m]? = some c → cur'[m]? = some (gf c)) ∧
      W.heap.size ≤ w'.heap.size ∧ (∀ k, k < W.heap.size → k ≠ gb → w'.heap[k]? = W.heap[k]?) ∧ w'.os = W.os ∧ w'.tape = W.tape ∧ w'.output = W.output := by
  have hgl : gb < W.heap.size := (Array.getElem?_eq_some_iff.1 hgb).1
  obtain ⟨E, hE⟩ : ∃ E : Env, E = ⟨F, fun k => if k = .O 0 then some (.blk gb 0 1 ss.length) else none, W.heap⟩ := ⟨_, rfl⟩
  have hmu0 : E.mu (.O 0) = some (.blk gb 0 1 ss.length) := by rw [hE]; simp
  have hmuN : ∀ k, k ≠ .O 0 → E.mu k = none := fun k hk => by rw [hE]; exact if_neg hk
  have hmuS : ∀ k b o s n, E.mu k = some (.blk b o s n) → k = .O 0 ∧ b = gb := fun k b o s n hk => by
    by_cases e : k = .O 0
    · subst e
      rw [hmu0] at hk
      cases hk
      exact ⟨rfl, rfl⟩
    · rw [hmuN k e] at hk
      cases hk
  have hsz : bc W.heap gb = cur.size := by unfold bc; rw [hgb]
  have hM : ah (C0 E W) pn E (qi [.arr true 1 (ip ss)] 1) W := by
    refine ⟨by rw [hE], rfl, rfl, rfl, Nat.le_refl _, fun _ _ _ => rfl, fun _ h => h, fun b h => hF b (by rw [hE] at h; exact h), fun _ h _ => .inl h, fun k b o s n hk => ?_, fun k k' b o s n o' s' n' hk hk' => ?_, fun d => hmuN _ (by intro e; cases e), fun id => ?_, fun id _ => .inr rfl, Nat.le_refl _, fun _ _ => rfl, (fun _ _ h => by cases h), fun id => ?_⟩
    · obtain ⟨rfl, rfl⟩ := hmuS k b o s n hk
      refine ⟨by rw [hE]; exact hnF, hgl, .inl ⟨.O 0, 0, 1, ss.length, ?_⟩⟩
      exact hmu0
    · rw [(hmuS _ _ _ _ _ hk).1, (hmuS _ _ _ _ _ hk').1]
    · cases id with
      | zero =>
        rw [hmu0]
        refine ⟨⟨rfl, (nr ss).symm⟩, by decide, wM, cur, ty, by rw [hE]; exact hgb, by rw [nr]; omega, fun m c hmc => ?_⟩
        rw [oP, List.getElem?_map, Option.map_eq_some_iff] at hmc
        obtain ⟨x, hx, rfl⟩ := hmc
        refine ⟨gf x, ?_, .v _ _ rfl⟩
        have hml : m < ss.length := (List.getElem?_eq_some_iff.1 hx).1
        have h1 : (cur.toList.take (ss.length * 1))[m]? = (ss.map gf)[m]? := by rw [ht]
        rw [List.getElem?_take_of_lt (by omega), List.getElem?_map, hx, Array.getElem?_toList] at h1
        simpa using h1
      | succ id =>
        rw [hmuN _ (by intro e; cases e)]
        have : (qi [.arr true 1 (ip ss)] 1).o[id + 1]? = none := by simp [qi]
        rw [this]
        trivial
    · have hn : gC (qi [.arr true 1 (ip ss)] 1).o[id]? = true := by
        cases id with
        | zero => rfl
        | succ id => rfl
      rw [dQ.not hn]
      exact fun j => hmuN _ (by intro e; cases e)
  have hgt : sB E := hg.mono ⟨fun b hb => by rw [hE]; exact hb, fun _ _ _ h => (by cases h), fun _ _ => by rw [hE], fun _ _ _ _ _ _ h => (by cases h)⟩
  have hv : cq E [.mf 0] [.slice (some ⟨gb, 0, none⟩) ss.length cap] := .cons (.mf cap hmu0 hl (by rw [hE]; show 0 + cap * 1 ≤ bc W.heap gb; rw [hsz]; omega)) (.nil _)
  refine (h.2 E W #[.slice (some ⟨gb, 0, none⟩) ss.length cap] hM hgt hv).mono ?_
  rintro e w' ⟨v, r, o', E', ⟨rfl, rfl⟩, rfl, hM', hr⟩
  obtain ⟨us, rfl, hus⟩ := hr.tupI
  have hus0 : us = #[] := Array.ext' hus.unnil
  subst hus0
  have hmu' : E'.mu (.O 0) = some (.blk gb 0 1 ss.length) := by
    rcases hM'.old 0 (Nat.lt_succ_self 0) with h | h
    · cases h
    · exact h.trans hmu0
  have hob : fb E' (some (.arr true 1 (ip ys))) (E'.mu (.O 0)) := hM'.obj 0
  rw [hmu'] at hob
  obtain ⟨_, _, _, cur', ty', hcell, _, hcs⟩ := hob
  have hszs := hM'.szs gb hgl
  have hh : E'.h = w'.heap := hM'.hp
  rw [hh] at hcell
  refine ⟨rfl, cur', ty', hcell, ?_, fun m c hmc => ?_, hM'.size, fun k hk hne => hM'.keep k hk (fun ⟨k', o, s, n, hk'⟩ => hne (hmuS _ _ _ _ _ (eB hk')).2), hM'.os, hM'.tape, hM'.output⟩
  · have e1 : bc w'.heap gb = cur'.size := by unfold bc; rw [hcell]
    have e2 : bc (C0 E W).w0.heap gb = cur.size := hsz
    omega
  · obtain ⟨u, hu, hvu⟩ := hcs m (.v (.int .u64 c)) (by rw [oP, List.getElem?_map, hmc]; rfl)
    obtain ⟨rfl, _⟩ := hvu.vI
    simpa using hu

set_option maxHeartbeats 1000000 in
theorem collect_in (F : Fence) (n : Nat) (h8 : F.fn 57) (h11 : F.fn 69) (hro : F.round = none) (hn : 3 ≤ n) (g : Nat) (lb : Array Value) (hFg : F.fn g) (eg : ∀ args w, (callFunc g args).run Try.prog w = .ok (.enter g args) w)
    (S : List Int → Prop) (N : Nat) (hN : N ≤ maxLen) (hNb : N * 8 ≤ 140737488355328) (w : World) (hseq : SeqGives F (n - 1 - 1) Try.prog g lb gf S N w) :
    CallsIn F n Try.prog 57 #[.func (.func g) #[] lb] w fun e w' => ∃ (v : Value) (ss : List Int), e = .returned v ∧ S ss ∧ w'.ownsRow w.heap.size 33 1 v ss.length (ss.map gf) ∧ (v = .slice none 0 0 ↔ ss = []) ∧ Below w.heap.size w w' := by
  have h1 : 1 ≤ n := by omega
  refine callsIn_of_wp Try.func57 rfl h8 ?_ hro
  simp only [Try.ntmps57, List.size_toArray, List.length_cons, List.length_nil, Nat.reduceAdd, Nat.reduceSub, Array.replicate_succ, Array.replicate_zero, List.push_toArray, List.append_toArray, List.nil_append, List.cons_append]
  gi_wp2_with (gi_at_call 69; refine (appendSeq_in F (n - 1) h11 hro (by omega) g lb hFg eg S N hN hNb _ hseq).mono ?_; rintro e w' ⟨v, ss, rfl, hS, hrow, hnil, hb⟩)
  go_ret
  exact ⟨v, ss, rfl, hS, hrow, hnil, hb⟩

set_option maxRecDepth 100000 in
set_option maxHeartbeats 2000000 in
theorem zO {xs ys : List Int} (hs : ∀ ss, ss.Perm xs → xX ss ys) (hx0 : 0 < xs.length) (g : Nat) (lb : Array Value) (eg : ∀ args w, (callFunc g args).run Try.prog w = .ok (.enter g args) w)
    (N : Nat) (hN : N ≤ maxLen) (hNb : N * 8 ≤ 140737488355328) (w : World) (hseq : SeqGives Fence.wide 2 Try.prog g lb gf (fun ss => ss.Perm xs) N w)
    (F : Nat → Prop) (hF : ∀ b, F b → b < w.heap.size) (hg : sB ⟨F, fun _ => none, w.heap⟩) :
    Calls Try.prog 36 #[.func (.func g) #[] lb] w fun e w' => ∃ gb cap cur ty, e = .returned (.slice (some ⟨gb, 0, none⟩) xs.length cap) ∧ w.heap.size ≤ gb ∧ w'.heap[gb]? = some (.cells cur ty (0, 0)) ∧ cur.size = cap * 1 ∧ xs.length ≤ cap ∧ (∀ (m : Nat) (c : Int), ys[m]? = some c → cur[m]? = some (gf c)) ∧ Below w.heap.size w w' := by
  refine (callsIn_wide (n := 5)).1 ?_
  have hf1 : Fence.wide.fn 57 := trivial
  have hf2 : Fence.wide.fn 58 := trivial
  have h1 : 1 ≤ 5 := by omega
  refine callsIn_of_wp Try.func36 rfl trivial ?_ rfl
  simp only [Try.ntmps36, List.size_toArray, List.length_cons, List.length_nil, Nat.reduceAdd, Nat.reduceSub, Array.replicate_succ, Array.replicate_zero, List.push_toArray, List.append_toArray, List.nil_append, List.cons_append]
  gi_wp2_with (gi_at_call 57; refine (collect_in Fence.wide 4 trivial trivial rfl (by omega) g lb trivial eg _ N hN hNb _ hseq).mono ?_; rintro e W ⟨v, ss, rfl, hS, hrow, hnil, hb⟩)
  have hlen : ss.length = xs.length := hS.length_eq
  rcases hrow.2 with ⟨_, hz⟩ | ⟨gb, cap, cur, rfl, hbase, hgb, r1, r2, r3, r4⟩
  · exact absurd hz (by omega)
  · have hle : ∀ b, F b → b < W.heap.size := fun b h => Nat.lt_of_lt_of_le (hF b h) hb.size
    have hgt : sB ⟨F, fun _ => none, W.heap⟩ := hg.mono ⟨fun _ h => h, fun _ _ _ h => h, fun b h => hb.block b (hF b h), fun _ _ _ _ _ _ h => (by cases h)⟩
    have cS := CP (hs ss hS) hle hgt hgb (fun h => by have := hF _ h; omega) r3 r1 r4
    gi_wp2_with (gi_at_call 58; refine (callsIn_wide (n := 4)).2 (cS.mono ?_); rintro e w' ⟨rfl, cur', ty', hc1, hc2, hc3, hc4, hc5, hc6, hc7, hc8⟩)
    go_ret
    refine ⟨gb, cap, cur', ty', by first | rfl | (rw [hlen]; rfl), hbase, hc1, hc2, by omega, hc3, ?_⟩
    exact ⟨hc6.trans hb.os, hc7.trans hb.tape, hc8.trans hb.output, Nat.le_trans hb.size hc4, fun k hk => (hc5 k (Nat.lt_of_lt_of_le hk hb.size) (by omega)).trans (hb.block k hk)⟩


/-! ### No keys -/
noncomputable def Ej : A.nW := { P := Try.prog, pure := fun f => !(A.ep [58, 70, 76] f), pol := fun _ => { esc := [], ms := [], bx := [], st := [58, 70, 76] } }
theorem G6 : Ej.P.follows .mixedOrders = true := by kernel_rfl
theorem Ek : (Ej.P.funcs.all fun fn => !(fn.name == "runtime.NumGoroutine")) = true := by kernel_rfl
set_option maxRecDepth 1000000 in
set_option maxHeartbeats 0 in
theorem H1 : mz (fG Ej 200) 58 [.nilsl] [] (fun r o' => r = .tup [] ∧ o' = []) = (AV.tup [] = AV.tup [] ∧ ([] : List Ob) = []) := by kernel_rfl
set_option maxRecDepth 1000000 in
theorem Kg : ku Try.prog 58 [.nilsl] [] fun r o' => r = .tup [] ∧ o' = [] := by
  have h : mz (fG Ej 200) 58 [.nilsl] [] (fun r o' => r = .tup [] ∧ o' = []) := by rw [H1]; exact ⟨rfl, rfl⟩
  obtain ⟨h1, h2, h3⟩ := AH (cfg := Ej) (.none rfl rfl) (tH Ek) G6 200
  have h4 := lE h1 h2 h3 (by rw [kL]; exact tH Ek) h
  rw [kL] at h4
  exact h4
theorem El {F : Nat → Prop} {W : World} (hF : ∀ b, F b → b < W.heap.size) (hg : sB ⟨F, fun _ => none, W.heap⟩) :
    Calls Try.prog 58 #[.slice none 0 0] W fun e w' => e = .returned (.tuple #[]) ∧ W.heap.size ≤ w'.heap.size ∧ (∀ k, k < W.heap.size → w'.heap[k]? = W.heap[k]?) ∧ w'.os = W.os ∧ w'.tape = W.tape ∧ w'.output = W.output := by
  obtain ⟨E, hE⟩ : ∃ E : Env, E = ⟨F, fun _ => none, W.heap⟩ := ⟨_, rfl⟩
  have hmuN : ∀ k, E.mu k = none := fun k => by rw [hE]
  have hM : ah (C0 E W) pn E (qi [] 0) W := by
    refine ⟨by rw [hE], rfl, rfl, rfl, Nat.le_refl _, fun _ _ _ => rfl, fun _ h => h, fun b h => hF b (by rw [hE] at h; exact h), fun _ h _ => .inl h, fun k b o s n hk => ?_, fun k k' b o s n o' s' n' hk hk' => ?_, fun d => hmuN _, fun id => ?_, fun id _ => .inr rfl, Nat.le_refl _, fun _ _ => rfl, (fun _ _ h => by cases h), fun id => ?_⟩
    · rw [hmuN k] at hk; cases hk
    · rw [hmuN k] at hk; cases hk
    · rw [hmuN]
      have : (qi [] 0).o[id]? = none := by simp [qi]
      rw [this]
      trivial
    · have hn : gC (qi [] 0).o[id]? = true := rfl
      rw [dQ.not hn]
      exact fun j => hmuN _
  have hgt : sB E := hg.mono ⟨fun b hb => by rw [hE]; exact hb, fun _ _ _ h => (by cases h), fun _ _ => by rw [hE], fun _ _ _ _ _ _ h => (by cases h)⟩
  refine (Kg.2 E W #[.slice none 0 0] hM hgt (.cons (.nilsl _) (.nil _))).mono ?_
  rintro e w' ⟨v, r, o', E', ⟨rfl, rfl⟩, rfl, hM', hr⟩
  obtain ⟨us, rfl, hus⟩ := hr.tupI
  have hus0 : us = #[] := Array.ext' hus.unnil
  subst hus0
  refine ⟨rfl, hM'.size, fun k hk => hM'.keep k hk (fun ⟨k', o, s, n, hk'⟩ => ?_), hM'.os, hM'.tape, hM'.output⟩
  have := eB hk'
  rw [hmuN] at this
  cases this
set_option maxRecDepth 100000 in
set_option maxHeartbeats 2000000 in
theorem zP (g : Nat) (lb : Array Value) (eg : ∀ args w, (callFunc g args).run Try.prog w = .ok (.enter g args) w)
    (N : Nat) (hN : N ≤ maxLen) (hNb : N * 8 ≤ 140737488355328) (w : World) (hseq : SeqGives Fence.wide 2 Try.prog g lb gf (fun ss => ss.Perm []) N w)
    (F : Nat → Prop) (hF : ∀ b, F b → b < w.heap.size) (hg : sB ⟨F, fun _ => none, w.heap⟩) :
    Calls Try.prog 36 #[.func (.func g) #[] lb] w fun e w' => e = .returned (.slice none 0 0) ∧ Below w.heap.size w w' := by
  refine (callsIn_wide (n := 5)).1 ?_
  have hf1 : Fence.wide.fn 57 := trivial
  have hf2 : Fence.wide.fn 58 := trivial
  have h1 : 1 ≤ 5 := by omega
  refine callsIn_of_wp Try.func36 rfl trivial ?_ rfl
  simp only [Try.ntmps36, List.size_toArray, List.length_cons, List.length_nil, Nat.reduceAdd, Nat.reduceSub, Array.replicate_succ, Array.replicate_zero, List.push_toArray, List.append_toArray, List.nil_append, List.cons_append]
  gi_wp2_with (gi_at_call 57; refine (collect_in Fence.wide 4 trivial trivial rfl (by omega) g lb trivial eg _ N hN hNb _ hseq).mono ?_; rintro e W ⟨v, ss, rfl, hS, hrow, hnil, hb⟩)
  have hss : ss = [] := List.perm_nil.1 hS
  obtain rfl := hnil.2 hss
  have hle : ∀ b, F b → b < W.heap.size := fun b h => Nat.lt_of_lt_of_le (hF b h) hb.size
  have hgt : sB ⟨F, fun _ => none, W.heap⟩ := hg.mono ⟨fun _ h => h, fun _ _ _ h => h, fun b h => hb.block b (hF b h), fun _ _ _ _ _ _ h => (by cases h)⟩
  have cS := El hle hgt
  gi_wp2_with (gi_at_call 58; refine (callsIn_wide (n := 4)).2 (cS.mono ?_); rintro e w' ⟨rfl, hc4, hc5, hc6, hc7, hc8⟩)
  go_ret
  refine ⟨rfl, ?_⟩
  exact ⟨hc6.trans hb.os, hc7.trans hb.tape, hc8.trans hb.output, Nat.le_trans hb.size hc4, fun k hk => (hc5 k (Nat.lt_of_lt_of_le hk hb.size)).trans (hb.block k hk)⟩

theorem CQ {β : Type} {g : β → AV} (m : List (Int × β)) : pW (m.map (jJ (cI .u64) g)) = some (m.map (·.1)) := by
  induction m with
  | nil => rfl
  | cons x m ih =>
    show (match pW (m.map (jJ (cI .u64) g)) with | some xs => some (x.1 :: xs) | none => none) = _
    rw [ih]
    rfl
theorem wN : ∀ {l : List Int}, p0 l = true → l.Nodup
  | [], _ => List.nodup_nil
  | x :: l, h => by
    unfold p0 at h
    rw [Bool.and_eq_true, Bool.not_eq_true', List.any_eq_false] at h
    exact List.nodup_cons.2 ⟨fun hm => by have := h.1 x hm; simp at this, wN h.2⟩
theorem Ma {x : Int} (h1 : 0 ≤ x) (h2 : x ≤ 18446744073709551615) : (Lit.int .u64 x).wf = true := by
  show (decide ((IntKind.u64).min ≤ x) && decide (x ≤ (IntKind.u64).max)) = true
  rw [Bool.and_eq_true, decide_eq_true_eq, decide_eq_true_eq]
  exact ⟨h1, h2⟩
theorem A2 {o : List Ob} {bid mid : Nat} {fl fl' : Bool} {es : List (AV × AV)} {q1 ys : List Int} (hb : o[bid]? = some (.arr fl 1 [[.mp mid]])) (hm : o[mid]? = some (.mapo fl' es)) (hxs : pW es = some q1)
    (k1 : q1.Nodup) (k2 : ∀ x ∈ q1, (Lit.int .u64 x).wf = true) (k3 : 0 < q1.length) (k4 : q1.length ≤ 1000) (k5 : ys.length = q1.length) (k6 : ∀ ss, ss.Perm q1 → xX ss ys) :
    ku Try.prog 36 [.fn 59 [] [.ptr (.O bid) 0 0]] o fun r o' => r = .mf o.length ∧ o' = o ++ [.arr true 1 (ip ys)] := by
  refine ⟨⟨_, _, Try.func36, rfl, rfl⟩, fun E w us hM hgt hv => ?_⟩
  obtain ⟨u2, us2, e1, z2, hvs⟩ := hv.uncons
  obtain rfl := hvs.unnil
  have hus : us = #[u2] := by
    apply Array.ext'
    rw [e1]
  subst hus
  cases z2 with
  | fn us ws hl1 hc1 hl2 hc2 =>
    have hu0 : us = #[] := Array.eq_empty_of_size_eq_zero hl1.symm
    subst hu0
    obtain ⟨wp, hwp⟩ : ∃ z, ws = #[z] := by
      have : ws.size = 1 := hl2.symm
      match ws, this with
      | ⟨[z]⟩, _ => exact ⟨z, rfl⟩
    subst hwp
    have hpp := hc2 0 _ _ rfl rfl
    cases hpp with
    | ptr i j hs hmu =>
      rename_i b off sz n
      have ho := hM.obj bid
      have hb' : (qi o o.length).o[bid]? = some (.arr fl 1 [[.mp mid]]) := hb
      rw [hb', hmu] at ho
      obtain ⟨⟨hsz, _⟩, _, _, uc, ty, hcell, _, hcs⟩ := ho
      obtain ⟨um, hum, hvm⟩ := hcs 0 (.mp mid) rfl
      obtain ⟨mb, q1', q2', q3', rfl, hmm⟩ : ∃ mb q1 q2 q3, um = .map (some mb) ∧ E.mu (.O mid) = some (.blk mb q1 q2 q3) := by
        cases fl with
        | true =>
          cases hvm with
          | mp hx => cases hx
        | false =>
          cases hvm with
          | mp hx => exact ⟨_, _, _, _, rfl, hx⟩
      have hom := hM.obj mid
      have hm' : (qi o o.length).o[mid]? = some (.mapo fl' es) := hm
      rw [hm', hmm] at hom
      obtain ⟨ms, clock, hmh, ⟨hms, hborn⟩, hent⟩ := hom
      rw [hM.hp] at hcell hmh
      have hKA : rX ms q1 := uI hxs hms (fun i e m h1 h2 => (hent i e m h1 h2).1) k1 k2
      have hmsz : ms.size = q1.length := by rw [← hms, (nq hxs).1]
      obtain ⟨D0, hown, hDs, hhas⟩ := rj Try.underlying33 hmh hborn (by rw [hmsz]; exact Nat.le_trans k4 (by show (1000 : Nat) ≤ maxLen; decide)) hKA
      have hbl : b < w.heap.size := (Array.getElem?_eq_some_iff.1 hcell).1
      have hpc : w.cell? ⟨b, off + 0 * sz + 0, none⟩ = some (.map (some mb)) := by
        simp only [World.cell?, hcell]
        simpa using hum
      have hseq := keys_gives Fence.wide 2 trivial rfl (by omega) ⟨b, off + 0 * sz + 0, none⟩ mb ms.size D0 w hbl hpc hown hhas k1
      have hcall := zO k6 k3 59 #[.pointer (some ⟨b, off + 0 * sz + 0, none⟩)] (qd Try.func59 rfl rfl) _ (by rw [hDs]; exact Nat.le_trans k4 (by show (1000 : Nat) ≤ maxLen; decide)) (by rw [hDs]; omega) w hseq E.F hM.Flt (hgt.up (fun _ h => h) hM.hp)
      refine hcall.mono ?_
      rintro e w' ⟨gb, cap, cur, ty2, rfl, hbase, hgb, r3, r1, hys, hbelow⟩
      obtain ⟨hle, hS⟩ := hM.below (F' := E.F) hbelow (fun _ h => h) (fun b h => Nat.lt_of_lt_of_le (hM.Flt b h) hbelow.size) (fun b h _ => h)
      have hnone : E.mu (.O o.length) = none := by
        have := hM.obj o.length
        have hn : (qi o o.length).o[o.length]? = none := List.getElem?_eq_none (Nat.le_refl _)
        rw [hn] at this
        revert this
        cases E.mu (.O o.length) with
        | none => exact fun _ => rfl
        | some z => exact fun h => h.elim
      have hgl : gb < w'.heap.size := (Array.getElem?_eq_some_iff.1 hgb).1
      have hS2 := hS.addkey (key := .O o.length) (mv := .blk gb 0 1 ys.length) (M' := qi (o ++ [.arr true 1 (ip ys)]) o.length) (fun d e => by cases e) hnone (fun b' o' s' n' e => by
        cases e
        refine ⟨fun hF => ?_, hgl, .inr hbase, fun k o' s' n' hk => ?_⟩
        · have := hM.Flt _ hF
          omega
        · have := (hM.own k _ _ _ _ hk).2.1
          omega)
        (fun _ _ => rfl) (fun id hid => by
          show (o ++ [_])[id]? = o[id]?
          by_cases h : id < o.length
          · rw [List.getElem?_append_left h]
          · rw [List.getElem?_eq_none (by simp; have : id ≠ o.length := fun e => hid (by rw [e]); omega), List.getElem?_eq_none (by omega)]) rfl (by simp [qi]) (fun id e => by cases e; exact Nat.le_refl _) (fun d e => by cases e) (fun id e => by
          cases e
          have : (qi (o ++ [.arr true 1 (ip ys)]) o.length).o[o.length]? = some (.arr true 1 (ip ys)) := by
            show (o ++ [_])[o.length]? = _
            rw [List.getElem?_append_right (Nat.le_refl _), Nat.sub_self]
            rfl
          rw [this]
          refine ⟨⟨rfl, (nr ys).symm⟩, by decide, wM, cur, ty2, hgb, by rw [nr]; omega, fun m c hc => ?_⟩
          rw [oP, List.getElem?_map, Option.map_eq_some_iff] at hc
          obtain ⟨y, hy, rfl⟩ := hc
          exact ⟨gf y, by rw [Nat.zero_add]; exact hys m y hy, .v _ _ rfl⟩) (hS.ow_push (M := qi o o.length) rfl rfl)
      refine ⟨_, _, _, _, ⟨rfl, rfl⟩, rfl, hS2, ?_⟩
      rw [← k5]
      refine .mf (b := gb) (o := 0) (sz := 1) (n := ys.length) cap (by show aA _ _ _ _ = _; unfold aA; rw [if_pos rfl]) (by omega) ?_
      show 0 + cap * 1 ≤ bc w'.heap gb
      unfold bc
      rw [hgb]
      show 0 + cap * 1 ≤ cur.size
      omega
theorem zQ {o : List Ob} {bid mid : Nat} {fl fl' : Bool} {es : List (AV × AV)} (hb : o[bid]? = some (.arr fl 1 [[.mp mid]])) (hm : o[mid]? = some (.mapo fl' es)) (hxs : pW es = some []) :
    ku Try.prog 36 [.fn 59 [] [.ptr (.O bid) 0 0]] o fun r o' => r = .nilsl ∧ o' = o := by
  obtain ⟨q1, hq⟩ : ∃ q : List Int, q = [] := ⟨_, rfl⟩
  rw [← hq] at hxs
  have k1 : q1.Nodup := by rw [hq]; exact List.nodup_nil
  have k2 : ∀ x ∈ q1, (Lit.int .u64 x).wf = true := by rw [hq]; intro x h; cases h
  have k4 : q1.length ≤ 1000 := by rw [hq]; exact Nat.zero_le _
  refine ⟨⟨_, _, Try.func36, rfl, rfl⟩, fun E w us hM hgt hv => ?_⟩
  obtain ⟨u2, us2, e1, z2, hvs⟩ := hv.uncons
  obtain rfl := hvs.unnil
  have hus : us = #[u2] := by
    apply Array.ext'
    rw [e1]
  subst hus
  cases z2 with
  | fn us ws hl1 hc1 hl2 hc2 =>
    have hu0 : us = #[] := Array.eq_empty_of_size_eq_zero hl1.symm
    subst hu0
    obtain ⟨wp, hwp⟩ : ∃ z, ws = #[z] := by
      have : ws.size = 1 := hl2.symm
      match ws, this with
      | ⟨[z]⟩, _ => exact ⟨z, rfl⟩
    subst hwp
    have hpp := hc2 0 _ _ rfl rfl
    cases hpp with
    | ptr i j hs hmu =>
      rename_i b off sz n
      have ho := hM.obj bid
      have hb' : (qi o o.length).o[bid]? = some (.arr fl 1 [[.mp mid]]) := hb
      rw [hb', hmu] at ho
      obtain ⟨⟨hsz, _⟩, _, _, uc, ty, hcell, _, hcs⟩ := ho
      obtain ⟨um, hum, hvm⟩ := hcs 0 (.mp mid) rfl
      obtain ⟨mb, q1', q2', q3', rfl, hmm⟩ : ∃ mb q1 q2 q3, um = .map (some mb) ∧ E.mu (.O mid) = some (.blk mb q1 q2 q3) := by
        cases fl with
        | true =>
          cases hvm with
          | mp hx => cases hx
        | false =>
          cases hvm with
          | mp hx => exact ⟨_, _, _, _, rfl, hx⟩
      have hom := hM.obj mid
      have hm' : (qi o o.length).o[mid]? = some (.mapo fl' es) := hm
      rw [hm', hmm] at hom
      obtain ⟨ms, clock, hmh, ⟨hms, hborn⟩, hent⟩ := hom
      rw [hM.hp] at hcell hmh
      have hKA : rX ms q1 := uI hxs hms (fun i e m h1 h2 => (hent i e m h1 h2).1) k1 k2
      have hmsz : ms.size = q1.length := by rw [← hms, (nq hxs).1]
      obtain ⟨D0, hown, hDs, hhas⟩ := rj Try.underlying33 hmh hborn (by rw [hmsz]; exact Nat.le_trans k4 (by show (1000 : Nat) ≤ maxLen; decide)) hKA
      have hbl : b < w.heap.size := (Array.getElem?_eq_some_iff.1 hcell).1
      have hpc : w.cell? ⟨b, off + 0 * sz + 0, none⟩ = some (.map (some mb)) := by
        simp only [World.cell?, hcell]
        simpa using hum
      have hseq := keys_gives Fence.wide 2 trivial rfl (by omega) ⟨b, off + 0 * sz + 0, none⟩ mb ms.size D0 w hbl hpc hown hhas k1
      rw [hq] at hseq
      have hcall := zP 59 #[.pointer (some ⟨b, off + 0 * sz + 0, none⟩)] (qd Try.func59 rfl rfl) _ (by rw [hDs]; exact Nat.le_trans k4 (by show (1000 : Nat) ≤ maxLen; decide)) (by rw [hDs]; omega) w hseq E.F hM.Flt (hgt.up (fun _ h => h) hM.hp)
      refine hcall.mono ?_
      rintro e w' ⟨rfl, hbelow⟩
      obtain ⟨hle, hS⟩ := hM.below (F' := E.F) hbelow (fun _ h => h) (fun b h => Nat.lt_of_lt_of_le (hM.Flt b h) hbelow.size) (fun b h _ => h)
      exact ⟨_, _, _, _, ⟨rfl, rfl⟩, rfl, hS, .nilsl _⟩

theorem Fl {o : List Ob} {bid mid : Nat} {fl fl' : Bool} {es : List (AV × AV)} {ks : List Int} {R : Unit ⊕ List Int → AV × List Ob} (hsim : ∀ n l, cS Try.prog (cN n l) 58 [.mf 0] [.arr true 1 (ip l)] (fun ys => (.tup [], [.arr true 1 (ip ys)])))
    (hb : o[bid]? = some (.arr fl 1 [[.mp mid]])) (hm : o[mid]? = some (.mapo fl' es)) (hk : pW es = some ks) (h0 : R (.inl ()) = (.nilsl, o)) (h1 : ∀ ys, R (.inr ys) = (.mf o.length, o ++ [.arr true 1 (ip ys)])) :
    cS Try.prog (rI ks) 36 [.fn 59 [] [.ptr (.O bid) 0 0]] o R := by
  intro y h
  unfold rI at h
  split at h
  · rename_i hl
    have hn : ks = [] := List.length_eq_zero_iff.1 hl
    have e := Option.some.inj h
    subst e hn
    refine ⟨.nilsl, o, zQ hb hm hk, ?_⟩
    rw [h0]
    exact ⟨rfl, rfl⟩
  · rename_i hl
    obtain ⟨hc, h⟩ := Io h
    have e := Option.some.inj h
    subst e
    rw [Bool.and_eq_true, Bool.and_eq_true] at hc
    obtain ⟨⟨c1, c2⟩, c3⟩ := hc
    have c3 : ks.length ≤ 1000 := Nat.le_of_ble_eq_true c3
    refine ⟨.mf o.length, o ++ [.arr true 1 (ip (ji ks))], A2 hb hm hk (wN c1) (fun x hx => ?_) (by omega) c3 (U.isort_len ks) (fun ss hs => ?_), ?_⟩
    · have := List.all_eq_true.1 c2 x hx
      simp only [Bool.and_eq_true, decide_eq_true_eq] at this
      exact Ma this.1 this.2
    · have hsl : ss.length ≤ 1000 := by rw [hs.length_eq]; exact c3
      have e := U.sort_ok (n := 3000) (l := ss) hsl (Nat.le_refl _)
      rw [U.isort_of_perm hs] at e
      exact (hsim 3000 ss _ e).out
    · rw [h1]
      exact ⟨rfl, rfl⟩
end A
end Go.Proofs.Ytcckeabholabcaa
