/- slices.Sorted over the keys of maps whose keys are known: a contract for the closed evaluator (Collect and Sorted: after the guide's worked proofs GgCollectAtTheDump and GgSortedAtTheDump). -/
import Derived.Test.YtcckeabholabcaaIS
namespace Go.Proofs.Ytcckeabholabcaa
namespace A
open Go Go.Proofs
open Go.RowKit Go.Maps Go.Sort

def keysI : List (AV × AV) → Option (List Int)
  | [] => some []
  | (.v (.int .u64 x), _) :: es => match keysI es with
    | some xs => some (x :: xs)
    | none => none
  | _ :: _ => none
theorem keysI_get : ∀ {es : List (AV × AV)} {xs : List Int}, keysI es = some xs → es.length = xs.length ∧ ∀ (i : Nat) (e : AV × AV), es[i]? = some e → ∃ x : Int, xs[i]? = some x ∧ e.1 = .v (.int .u64 x)
  | [], xs, h => by cases h; exact ⟨rfl, fun i e h => by simp at h⟩
  | (k, v) :: es, xs, h => by
    unfold keysI at h
    split at h
    · rename_i he
      cases he
    · rename_i x _ es' he
      cases he
      split at h
      · rename_i xs' hx
        cases h
        obtain ⟨h1, h2⟩ := keysI_get hx
        refine ⟨by simp [h1], fun i e he => ?_⟩
        cases i with
        | zero => simp at he; subst he; exact ⟨x, rfl, rfl⟩
        | succ i => exact h2 i e (by simpa using he)
      · cases h
    · cases h
theorem keysAre_of {es : List (AV × AV)} {xs : List Int} {ms : Array MapEntry} (h : keysI es = some xs) (hl : es.length = ms.size) (hk : ∀ (i : Nat) (e : AV × AV) (m : MapEntry), es[i]? = some e → ms[i]? = some m → toK e.1 = some m.key) (hn : xs.Nodup) (hw : ∀ x ∈ xs, (Lit.int .u64 x).wf = true) : KeysAre ms xs := by
  obtain ⟨h1, h2⟩ := keysI_get h
  refine ⟨?_, hn, hw⟩
  apply List.ext_getElem?
  intro i
  rw [List.getElem?_map, List.getElem?_map, Array.getElem?_toList]
  by_cases hi : i < es.length
  · have he : es[i]? = some es[i] := List.getElem?_eq_getElem hi
    have hm : ms[i]? = some ms[i] := Array.getElem?_eq_getElem (by omega)
    obtain ⟨x, hx, e1⟩ := h2 i _ he
    have hkey := hk i _ _ he hm
    rw [e1] at hkey
    simp only [toK, Option.some.injEq] at hkey
    rw [hm, hx]
    simp only [Option.map_some, ← hkey]
  · rw [Array.getElem?_eq_none (by omega), List.getElem?_eq_none (by omega)]
    rfl

def rowsU (xs : List Int) : List (List AV) := xs.map fun x => [.v (.int .u64 x)]
theorem rowsU_flat (xs : List Int) : (rowsU xs).flatten = xs.map fun x => .v (.int .u64 x) := by
  induction xs with
  | nil => rfl
  | cons x xs ih =>
    show [.v (.int .u64 x)] ++ (rowsU xs).flatten = _
    rw [ih]
    rfl
theorem rowsU_len (xs : List Int) : (rowsU xs).length = xs.length := by simp [rowsU]
theorem rowsU_one {xs : List Int} : ∀ r ∈ rowsU xs, r.length = 1 := by
  intro r hr
  obtain ⟨x, _, rfl⟩ := List.mem_map.1 hr
  rfl

/-- slices.Sort makes these numbers those. -/
def SortsTo (xs ys : List Int) : Prop := SCall Try.prog 58 [.mf 0] [.arr true 1 (rowsU xs)] fun r o' => r = .tup [] ∧ o' = [.arr true 1 (rowsU ys)]

theorem sort_call {ss ys : List Int} (h : SortsTo ss ys) {F : Nat → Prop} {W : World} (hF : ∀ b, F b → b < W.heap.size) (hg : GTE ⟨F, fun _ => none, W.heap⟩) {gb cap : Nat} {ty : TypeId} {cur : Array Value}
    (hgb : W.heap[gb]? = some (.cells cur ty (0, 0))) (hnF : ¬ F gb) (hc : cur.size = cap * 1) (hl : ss.length ≤ cap) (ht : cur.toList.take (ss.length * 1) = ss.map encU) :
    Calls Try.prog 58 #[.slice (some ⟨gb, 0, none⟩) ss.length cap] W fun e w' => e = .returned (.tuple #[]) ∧ ∃ cur' ty', w'.heap[gb]? = some (.cells cur' ty' (0, 0)) ∧ cur'.size = cap * 1 ∧ (∀ (m : Nat) (c : Int), ys[m]? = some c → cur'[m]? = some (encU c)) ∧
      W.heap.size ≤ w'.heap.size ∧ (∀ k, k < W.heap.size → k ≠ gb → w'.heap[k]? = W.heap[k]?) ∧ w'.os = W.os ∧ w'.tape = W.tape ∧ w'.output = W.output := by
  have hgl : gb < W.heap.size := (Array.getElem?_eq_some_iff.1 hgb).1
  obtain ⟨E, hE⟩ : ∃ E : Env, E = ⟨F, fun k => if k = .O 0 then some (.blk gb 0 1 ss.length) else none, W.heap⟩ := ⟨_, rfl⟩
  have hmu0 : E.mu (.O 0) = some (.blk gb 0 1 ss.length) := by rw [hE]; simp
  have hmuN : ∀ k, k ≠ .O 0 → E.mu k = none := fun k hk => by rw [hE]; exact if_neg hk
  have hmuS : ∀ k b o s n, E.mu k = some (.blk b o s n) → k = .O 0 ∧ b = gb := fun k b o s n hk => by
    by_cases e : k = .O 0
    · subst e
      rw [hmu0] at hk
      cases hk
      exact ⟨rfl, rfl⟩
    · rw [hmuN k e] at hk
      cases hk
  have hsz : sizeH W.heap gb = cur.size := by unfold sizeH; rw [hgb]
  have hM : SimM (ghO E W) pn E (stO [.arr true 1 (rowsU ss)] 1) W := by
    refine ⟨by rw [hE], rfl, rfl, rfl, Nat.le_refl _, fun _ _ _ => rfl, fun _ h => h, fun b h => hF b (by rw [hE] at h; exact h), fun _ h _ => .inl h, fun k b o s n hk => ?_, fun k k' b o s n o' s' n' hk hk' => ?_, fun d => hmuN _ (by intro e; cases e), fun id => ?_, fun id _ => .inr rfl, Nat.le_refl _, fun _ _ => rfl, fun _ _ h => by cases h⟩
    · obtain ⟨rfl, rfl⟩ := hmuS k b o s n hk
      refine ⟨by rw [hE]; exact hnF, hgl, .inl ⟨.O 0, 0, 1, ss.length, ?_⟩⟩
      exact hmu0
    · rw [(hmuS _ _ _ _ _ hk).1, (hmuS _ _ _ _ _ hk').1]
    · cases id with
      | zero =>
        rw [hmu0]
        refine ⟨⟨rfl, (rowsU_len ss).symm⟩, by decide, rowsU_one, cur, ty, by rw [hE]; exact hgb, by rw [rowsU_len]; omega, fun m c hmc => ?_⟩
        rw [rowsU_flat, List.getElem?_map, Option.map_eq_some_iff] at hmc
        obtain ⟨x, hx, rfl⟩ := hmc
        refine ⟨encU x, ?_, .v _ _ rfl⟩
        have hml : m < ss.length := (List.getElem?_eq_some_iff.1 hx).1
        have h1 : (cur.toList.take (ss.length * 1))[m]? = (ss.map encU)[m]? := by rw [ht]
        rw [List.getElem?_take_of_lt (by omega), List.getElem?_map, hx, Array.getElem?_toList] at h1
        simpa using h1
      | succ id =>
        rw [hmuN _ (by intro e; cases e)]
        have : (stO [.arr true 1 (rowsU ss)] 1).o[id + 1]? = none := by simp [stO]
        rw [this]
        trivial
  have hgt : GTE E := hg.mono ⟨fun b hb => by rw [hE]; exact hb, fun _ _ _ h => (by cases h), fun _ _ => by rw [hE], fun _ _ _ _ _ _ h => (by cases h)⟩
  have hv : VRs E [.mf 0] [.slice (some ⟨gb, 0, none⟩) ss.length cap] := .cons (.mf cap hmu0 hl (by rw [hE]; show 0 + cap * 1 ≤ sizeH W.heap gb; rw [hsz]; omega)) (.nil _)
  refine (h.2 E W #[.slice (some ⟨gb, 0, none⟩) ss.length cap] hM hgt hv).mono ?_
  rintro e w' ⟨v, r, o', E', ⟨rfl, rfl⟩, rfl, hM', hr⟩
  obtain ⟨us, rfl, hus⟩ := hr.tupI
  have hus0 : us = #[] := Array.ext' hus.unnil
  subst hus0
  have hmu' : E'.mu (.O 0) = some (.blk gb 0 1 ss.length) := by
    rcases hM'.old 0 (Nat.lt_succ_self 0) with h | h
    · cases h
    · exact h.trans hmu0
  have hob : ObR E' (some (.arr true 1 (rowsU ys))) (E'.mu (.O 0)) := hM'.obj 0
  rw [hmu'] at hob
  obtain ⟨_, _, _, cur', ty', hcell, _, hcs⟩ := hob
  have hszs := hM'.szs gb hgl
  have hh : E'.h = w'.heap := hM'.hp
  rw [hh] at hcell
  refine ⟨rfl, cur', ty', hcell, ?_, fun m c hmc => ?_, hM'.size, fun k hk hne => hM'.keep k hk (fun ⟨k', o, s, n, hk'⟩ => hne (hmuS _ _ _ _ _ (onlyO_some hk')).2), hM'.os, hM'.tape, hM'.output⟩
  · have e1 : sizeH w'.heap gb = cur'.size := by unfold sizeH; rw [hcell]
    have e2 : sizeH (ghO E W).w0.heap gb = cur.size := hsz
    omega
  · obtain ⟨u, hu, hvu⟩ := hcs m (.v (.int .u64 c)) (by rw [rowsU_flat, List.getElem?_map, hmc]; rfl)
    obtain ⟨rfl, _⟩ := hvu.vI
    simpa using hu

set_option maxHeartbeats 1000000 in
theorem collect_in (F : Fence) (n : Nat) (h8 : F.fn 57) (h11 : F.fn 69) (hro : F.round = none) (hn : 3 ≤ n) (g : Nat) (lb : Array Value) (hFg : F.fn g) (eg : ∀ args w, (callFunc g args).run Try.prog w = .ok (.enter g args) w)
    (S : List Int → Prop) (N : Nat) (hN : N ≤ maxLen) (hNb : N * 8 ≤ 140737488355328) (w : World) (hseq : SeqGives F (n - 1 - 1) Try.prog g lb encU S N w) :
    CallsIn F n Try.prog 57 #[.func (.func g) #[] lb] w fun e w' => ∃ (v : Value) (ss : List Int), e = .returned v ∧ S ss ∧ w'.ownsRow w.heap.size 33 1 v ss.length (ss.map encU) ∧ (v = .slice none 0 0 ↔ ss = []) ∧ Below w.heap.size w w' := by
  have h1 : 1 ≤ n := by omega
  refine callsIn_of_wp Try.func57 rfl h8 ?_ hro
  simp only [Try.ntmps57, List.size_toArray, List.length_cons, List.length_nil, Nat.reduceAdd, Nat.reduceSub, Array.replicate_succ, Array.replicate_zero, List.push_toArray, List.append_toArray, List.nil_append, List.cons_append]
  gi_wp2_with (gi_at_call 69; refine (appendSeq_in F (n - 1) h11 hro (by omega) g lb hFg eg S N hN hNb _ hseq).mono ?_; rintro e w' ⟨v, ss, rfl, hS, hrow, hnil, hb⟩)
  go_ret
  exact ⟨v, ss, rfl, hS, hrow, hnil, hb⟩

set_option maxRecDepth 100000 in
set_option maxHeartbeats 2000000 in
theorem sorted_call {xs ys : List Int} (hs : ∀ ss, ss.Perm xs → SortsTo ss ys) (hx0 : 0 < xs.length) (g : Nat) (lb : Array Value) (eg : ∀ args w, (callFunc g args).run Try.prog w = .ok (.enter g args) w)
    (N : Nat) (hN : N ≤ maxLen) (hNb : N * 8 ≤ 140737488355328) (w : World) (hseq : SeqGives Fence.wide 2 Try.prog g lb encU (fun ss => ss.Perm xs) N w)
    (F : Nat → Prop) (hF : ∀ b, F b → b < w.heap.size) (hg : GTE ⟨F, fun _ => none, w.heap⟩) :
    Calls Try.prog 36 #[.func (.func g) #[] lb] w fun e w' => ∃ gb cap cur ty, e = .returned (.slice (some ⟨gb, 0, none⟩) xs.length cap) ∧ w.heap.size ≤ gb ∧ w'.heap[gb]? = some (.cells cur ty (0, 0)) ∧ cur.size = cap * 1 ∧ xs.length ≤ cap ∧ (∀ (m : Nat) (c : Int), ys[m]? = some c → cur[m]? = some (encU c)) ∧ Below w.heap.size w w' := by
  refine (callsIn_wide (n := 5)).1 ?_
  have hf1 : Fence.wide.fn 57 := trivial
  have hf2 : Fence.wide.fn 58 := trivial
  have h1 : 1 ≤ 5 := by omega
  refine callsIn_of_wp Try.func36 rfl trivial ?_ rfl
  simp only [Try.ntmps36, List.size_toArray, List.length_cons, List.length_nil, Nat.reduceAdd, Nat.reduceSub, Array.replicate_succ, Array.replicate_zero, List.push_toArray, List.append_toArray, List.nil_append, List.cons_append]
  gi_wp2_with (gi_at_call 57; refine (collect_in Fence.wide 4 trivial trivial rfl (by omega) g lb trivial eg _ N hN hNb _ hseq).mono ?_; rintro e W ⟨v, ss, rfl, hS, hrow, hnil, hb⟩)
  have hlen : ss.length = xs.length := hS.length_eq
  rcases hrow.2 with ⟨_, hz⟩ | ⟨gb, cap, cur, rfl, hbase, hgb, r1, r2, r3, r4⟩
  · exact absurd hz (by omega)
  · have hle : ∀ b, F b → b < W.heap.size := fun b h => Nat.lt_of_lt_of_le (hF b h) hb.size
    have hgt : GTE ⟨F, fun _ => none, W.heap⟩ := hg.mono ⟨fun _ h => h, fun _ _ _ h => h, fun b h => hb.block b (hF b h), fun _ _ _ _ _ _ h => (by cases h)⟩
    have cS := sort_call (hs ss hS) hle hgt hgb (fun h => by have := hF _ h; omega) r3 r1 r4
    gi_wp2_with (gi_at_call 58; refine (callsIn_wide (n := 4)).2 (cS.mono ?_); rintro e w' ⟨rfl, cur', ty', hc1, hc2, hc3, hc4, hc5, hc6, hc7, hc8⟩)
    go_ret
    refine ⟨gb, cap, cur', ty', by first | rfl | (rw [hlen]; rfl), hbase, hc1, hc2, by omega, hc3, ?_⟩
    exact ⟨hc6.trans hb.os, hc7.trans hb.tape, hc8.trans hb.output, Nat.le_trans hb.size hc4, fun k hk => (hc5 k (Nat.lt_of_lt_of_le hk hb.size) (by omega)).trans (hb.block k hk)⟩

/-- Lists of keys, and what sorting makes of them. -/
def srtC (known : List (List Int × List Int)) (f : Nat) (args : List AV) (o : List Ob) (K : AV → List Ob → Prop) : Prop :=
  match args with
  | [.fn g [] [.ptr (.O bid) 0 0]] => Chk (Nat.beq f 36 && Nat.beq g 59) (match o[bid]? with
    | some (.arr _ 1 [[.mp mid]]) => match o[mid]? with
      | some (.mapo _ es) => match keysI es with
        | some xs => match known.find? (fun p => decide (p.1 = xs)) with
          | some p => forceO (o ++ [.arr true 1 (rowsU p.2)]) fun o' => K (.mf o.length) o'
          | none => Fail 303
        | none => Fail 304
      | _ => Fail 300
    | _ => Fail 301)
  | _ => Fail 302

theorem srtC_det (known : List (List Int × List Int)) (f : Nat) (args : List AV) (o : List Ob) : Det2 (srtC known f args o) := by
  unfold srtC
  split
  · refine Det2.chk ?_
    split
    · split
      · split
        · split
          · intro K h
            rw [forceO_iff] at h
            exact ⟨_, _, h, fun K' hk => by show forceO _ _; rw [forceO_iff]; exact hk⟩
          · exact Det2.failN
        · exact Det2.failN
      · exact Det2.failN
    · exact Det2.failN
  · exact Det2.failN

/-- What is known is so. -/
def KnownOK (known : List (List Int × List Int)) : Prop := ∀ p ∈ known, p.1.Nodup ∧ (∀ x ∈ p.1, (Lit.int .u64 x).wf = true) ∧ 0 < p.1.length ∧ p.1.length ≤ 1000 ∧ p.2.length = p.1.length ∧ ∀ ss, ss.Perm p.1 → SortsTo ss p.2

theorem srtC_sound {known : List (List Int × List Int)} (hk : KnownOK known) (f : Nat) (args : List AV) (o : List Ob) (K : AV → List Ob → Prop) (h : srtC known f args o K) : SCall Try.prog f args o K := by
  unfold srtC at h
  split at h
  · rename_i g bid
    replace h := Chk_elim h
    obtain ⟨h1, h⟩ := h
    simp only [Bool.and_eq_true] at h1
    obtain ⟨hf, hg⟩ := h1
    have hf := Nat.eq_of_beq_eq_true hf
    have hg := Nat.eq_of_beq_eq_true hg
    subst hf hg
    split at h
    · rename_i fl mid hb
      split at h
      · rename_i fl' es hm
        split at h
        · rename_i xs hxs
          split at h
          · rename_i p hp
            rw [forceO_iff] at h
            have hpe : p.1 = xs := by simpa using List.find?_some hp
            obtain ⟨k1, k2, k3, k4, k5, k6⟩ := hk p (List.mem_of_find?_eq_some hp)
            obtain ⟨q1, ys⟩ := p
            dsimp only at hpe k1 k2 k3 k4 k5 k6 h
            subst hpe
            refine ⟨⟨_, _, Try.func36, rfl, rfl⟩, fun E w us hM hgt hv => ?_⟩
            obtain ⟨u2, us2, e1, hv2, hvs⟩ := hv.uncons
            obtain rfl := hvs.unnil
            have hus : us = #[u2] := by
              apply Array.ext'
              rw [e1]
            subst hus
            cases hv2 with
            | fn us ws hl1 hc1 hl2 hc2 =>
              have hu0 : us = #[] := Array.eq_empty_of_size_eq_zero hl1.symm
              subst hu0
              obtain ⟨wp, hwp⟩ : ∃ z, ws = #[z] := by
                have : ws.size = 1 := hl2.symm
                match ws, this with
                | ⟨[z]⟩, _ => exact ⟨z, rfl⟩
              subst hwp
              have hpp := hc2 0 _ _ rfl rfl
              cases hpp with
              | ptr i j hs hmu =>
                rename_i b off sz n
                have ho := hM.obj bid
                have hb' : (stO o o.length).o[bid]? = some (.arr fl 1 [[.mp mid]]) := hb
                rw [hb', hmu] at ho
                obtain ⟨⟨hsz, _⟩, _, _, uc, ty, hcell, _, hcs⟩ := ho
                obtain ⟨um, hum, hvm⟩ := hcs 0 (.mp mid) rfl
                obtain ⟨mb, q1', q2', q3', rfl, hmm⟩ : ∃ mb q1 q2 q3, um = .map (some mb) ∧ E.mu (.O mid) = some (.blk mb q1 q2 q3) := by
                  cases fl with
                  | true =>
                    cases hvm with
                    | mp hx => cases hx
                  | false =>
                    cases hvm with
                    | mp hx => exact ⟨_, _, _, _, rfl, hx⟩
                have hom := hM.obj mid
                have hm' : (stO o o.length).o[mid]? = some (.mapo fl' es) := hm
                rw [hm', hmm] at hom
                obtain ⟨ms, clock, hmh, ⟨hms, hborn⟩, hent⟩ := hom
                rw [hM.hp] at hcell hmh
                have hKA : KeysAre ms q1 := keysAre_of hxs hms (fun i e m h1 h2 => (hent i e m h1 h2).1) k1 k2
                have hmsz : ms.size = q1.length := by rw [← hms, (keysI_get hxs).1]
                obtain ⟨D0, hown, hDs, hhas⟩ := ownsMap_u64 Try.underlying33 hmh hborn (by rw [hmsz]; exact Nat.le_trans k4 (by show (1000 : Nat) ≤ maxLen; decide)) hKA
                have hbl : b < w.heap.size := (Array.getElem?_eq_some_iff.1 hcell).1
                have hpc : w.cell? ⟨b, off + 0 * sz + 0, none⟩ = some (.map (some mb)) := by
                  simp only [World.cell?, hcell]
                  simpa using hum
                have hseq := keys_gives Fence.wide 2 trivial rfl (by omega) ⟨b, off + 0 * sz + 0, none⟩ mb ms.size D0 w hbl hpc hown hhas k1
                have hcall := sorted_call k6 k3 59 #[.pointer (some ⟨b, off + 0 * sz + 0, none⟩)] (run_numGo Try.func59 rfl rfl) _ (by rw [hDs]; exact Nat.le_trans k4 (by show (1000 : Nat) ≤ maxLen; decide)) (by rw [hDs]; omega) w hseq E.F hM.Flt (hgt.up (fun _ h => h) hM.hp)
                refine hcall.mono ?_
                rintro e w' ⟨gb, cap, cur, ty2, rfl, hbase, hgb, r3, r1, hys, hbelow⟩
                obtain ⟨hle, hS⟩ := hM.below (F' := E.F) hbelow (fun _ h => h) (fun b h => Nat.lt_of_lt_of_le (hM.Flt b h) hbelow.size) (fun b h _ => h)
                have hnone : E.mu (.O o.length) = none := by
                  have := hM.obj o.length
                  have hn : (stO o o.length).o[o.length]? = none := List.getElem?_eq_none (Nat.le_refl _)
                  rw [hn] at this
                  revert this
                  cases E.mu (.O o.length) with
                  | none => exact fun _ => rfl
                  | some z => exact fun h => h.elim
                have hgl : gb < w'.heap.size := (Array.getElem?_eq_some_iff.1 hgb).1
                have hS2 := hS.addkey (key := .O o.length) (mv := .blk gb 0 1 ys.length) (M' := stO (o ++ [.arr true 1 (rowsU ys)]) o.length) (fun d e => by cases e) hnone (fun b' o' s' n' e => by
                  cases e
                  refine ⟨fun hF => ?_, hgl, .inr hbase, fun k o' s' n' hk => ?_⟩
                  · have := hM.Flt _ hF
                    omega
                  · have := (hM.own k _ _ _ _ hk).2.1
                    omega)
                  (fun _ _ => rfl) (fun id hid => by
                    show (o ++ [_])[id]? = o[id]?
                    by_cases h : id < o.length
                    · rw [List.getElem?_append_left h]
                    · rw [List.getElem?_eq_none (by simp; have : id ≠ o.length := fun e => hid (by rw [e]); omega), List.getElem?_eq_none (by omega)]) rfl (by simp [stO]) (fun id e => by cases e; exact Nat.le_refl _) (fun d e => by cases e) (fun id e => by
                    cases e
                    have : (stO (o ++ [.arr true 1 (rowsU ys)]) o.length).o[o.length]? = some (.arr true 1 (rowsU ys)) := by
                      show (o ++ [_])[o.length]? = _
                      rw [List.getElem?_append_right (Nat.le_refl _), Nat.sub_self]
                      rfl
                    rw [this]
                    refine ⟨⟨rfl, (rowsU_len ys).symm⟩, by decide, rowsU_one, cur, ty2, hgb, by rw [rowsU_len]; omega, fun m c hc => ?_⟩
                    rw [rowsU_flat, List.getElem?_map, Option.map_eq_some_iff] at hc
                    obtain ⟨y, hy, rfl⟩ := hc
                    exact ⟨encU y, by rw [Nat.zero_add]; exact hys m y hy, .v _ _ rfl⟩)
                refine ⟨_, _, _, _, h, rfl, hS2, ?_⟩
                rw [← k5]
                refine .mf (b := gb) (o := 0) (sz := 1) (n := ys.length) cap (by show addMu _ _ _ _ = _; unfold addMu; rw [if_pos rfl]) (by omega) ?_
                show 0 + cap * 1 ≤ sizeH w'.heap gb
                unfold sizeH
                rw [hgb]
                show 0 + cap * 1 ≤ cur.size
                omega
          · exact h.elim
        · exact h.elim
      · exact h.elim
    · exact h.elim
  · exact h.elim

theorem srtX {known : List (List Int × List Int)} (hk : KnownOK known) {cfg : Cfg} (hP : cfg.P = Try.prog) (hc : cfg.xc = srtC known) {tab : List (Nat × List AV × AV)} (ht : ∀ e ∈ tab, PCall Try.prog e.1 e.2.1 fun x => x = e.2.2) (hq : cfg.xq = tabQ tab) : XOK cfg :=
  ⟨fun f args o K h => by rw [hP]; rw [hc] at h; exact srtC_sound hk f args o K h, fun f args o => by rw [hc]; exact srtC_det known f args o, fun f args r e => by rw [hP]; rw [hq] at e; exact tabQ_ok ht f args r e⟩

theorem perm_two {a b : Int} {ss : List Int} (h : ss.Perm [a, b]) : ss = [a, b] ∨ ss = [b, a] := by
  match ss, h.length_eq with
  | [x, y], _ =>
    have hx : x ∈ [a, b] := h.mem_iff.1 (by simp)
    simp only [List.mem_cons, List.not_mem_nil, or_false] at hx
    rcases hx with rfl | rfl
    · left
      have := (List.perm_cons x).1 h
      rw [List.perm_singleton.1 this]
    · right
      have h2 : [x, y].Perm [x, a] := h.trans (List.Perm.swap x a [])
      have := (List.perm_cons x).1 h2
      rw [List.perm_singleton.1 this]

end A
end Go.Proofs.Ytcckeabholabcaa
