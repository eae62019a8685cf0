/- slices.AppendSeq over the keys of a map of one entry: a contract for the closed evaluator. -/
import Derived.Test.YtcckeabholabcaaIT
import Derived.Test.YtcckeabholabcaaK6
namespace Go.Proofs.Ytcckeabholabcaa
namespace A
open Go Go.Proofs
open Go.RowKit Go.Maps

/-- The loop over the keys' iterator, where the map has one entry. -/
def appC (f : Nat) (args : List AV) (o : List Ob) (K : AV → List Ob → Prop) : Prop :=
  match args with
  | [.nilsl, .fn g [] [.ptr (.O bid) 0 0]] => Chk (Nat.beq f 69 && Nat.beq g 59) (match o[bid]? with
    | some (.arr _ 1 [[.mp mid]]) => match o[mid]? with
      | some (.mapo _ [(.v (.int .u64 x), _)]) => Chk (Lit.int .u64 x).wf (forceO (o ++ [.arr true 1 [[.v (.int .u64 x)]]]) fun o' => K (.mf o.length) o')
      | _ => Fail 300
    | _ => Fail 301)
  | _ => Fail 302

theorem appC_det (f : Nat) (args : List AV) (o : List Ob) : Det2 (appC f args o) := by
  intro K h
  unfold appC at h
  split at h
  · rename_i g bid
    replace h := Chk_elim h
    obtain ⟨h1, h⟩ := h
    split at h
    · rename_i fl mid hb
      split at h
      · rename_i fl' x v hm
        obtain ⟨h2, h⟩ := Chk_elim h
        rw [forceO_iff] at h
        refine ⟨_, _, h, fun K' hk => ?_⟩
        unfold appC
        refine Chk_intro h1 ?_
        rw [hb]
        show (match o[mid]? with | some (.mapo _ [(.v (.int .u64 x), _)]) => Chk (Lit.int .u64 x).wf (forceO (o ++ [.arr true 1 [[.v (.int .u64 x)]]]) fun o' => K' (.mf o.length) o') | _ => Fail 300)
        rw [hm]
        refine Chk_intro h2 ?_
        rw [forceO_iff]
        exact hk
      · exact h.elim
    · exact h.elim
  · exact h.elim

theorem appC_sound (f : Nat) (args : List AV) (o : List Ob) (K : AV → List Ob → Prop) (h : appC f args o K) : SCall Try.prog f args o K := by
  unfold appC at h
  split at h
  · rename_i g bid
    replace h := Chk_elim h
    obtain ⟨h1, h⟩ := h
    simp only [Bool.and_eq_true] at h1
    obtain ⟨hf, hg⟩ := h1
    have hf := Nat.eq_of_beq_eq_true hf
    have hg := Nat.eq_of_beq_eq_true hg
    subst hf hg
    split at h
    · rename_i fl mid hb
      split at h
      · rename_i fl' x v hm
        replace h := Chk_elim h
        obtain ⟨hwf, h⟩ := h
        rw [forceO_iff] at h
        refine ⟨⟨_, _, Try.func69, rfl, rfl⟩, fun E w us hM hgt hv => ?_⟩
        obtain ⟨u1, us1, e1, hv1, hvs⟩ := hv.uncons
        obtain ⟨u2, us2, rfl, hv2, hvs⟩ := hvs.uncons
        obtain rfl := hvs.unnil
        have hus : us = #[u1, u2] := by
          apply Array.ext'
          rw [e1]
        subst hus
        cases hv1
        cases hv2 with
        | fn us ws hl1 hc1 hl2 hc2 =>
          have hu0 : us = #[] := Array.eq_empty_of_size_eq_zero hl1.symm
          subst hu0
          obtain ⟨wp, hwp⟩ : ∃ z, ws = #[z] := by
            have : ws.size = 1 := hl2.symm
            match ws, this with
            | ⟨[z]⟩, _ => exact ⟨z, rfl⟩
          subst hwp
          have hp := hc2 0 _ _ rfl rfl
          cases hp with
          | ptr i j hs hmu =>
            rename_i b off sz n
            have ho := hM.obj bid
            have hb' : (stO o o.length).o[bid]? = some (.arr fl 1 [[.mp mid]]) := hb
            rw [hb', hmu] at ho
            obtain ⟨⟨hsz, _⟩, _, _, uc, ty, hcell, _, hcs⟩ := ho
            obtain ⟨um, hum, hvm⟩ := hcs 0 (.mp mid) rfl
            obtain ⟨mb, q1, q2, q3, rfl, hmm⟩ : ∃ mb q1 q2 q3, um = .map (some mb) ∧ E.mu (.O mid) = some (.blk mb q1 q2 q3) := by
              cases fl with
              | true =>
                cases hvm with
                | mp hx => cases hx
              | false =>
                cases hvm with
                | mp hx => exact ⟨_, _, _, _, rfl, hx⟩
            have hom := hM.obj mid
            have hm' : (stO o o.length).o[mid]? = some (.mapo fl' [(.v (.int .u64 x), v)]) := hm
            rw [hm', hmm] at hom
            obtain ⟨ms, clock, hmh, ⟨hms, hborn⟩, hent⟩ := hom
            rw [hM.hp] at hcell hmh
            have hms1 : ms.size = 1 := hms.symm
            obtain ⟨m0, hm0⟩ : ∃ m, ms = #[m] := by
              match ms, hms1 with
              | ⟨[z]⟩, _ => exact ⟨z, rfl⟩
            subst hm0
            have hkey := (hent 0 _ m0 rfl rfl).1
            have hk : m0.key = encU x := by
              simp only [toK, Option.some.injEq] at hkey
              exact hkey.symm
            have hKA : KeysAre #[m0] [x] := ⟨by simp [hk], by simp, fun y hy => by simp at hy; subst hy; exact hwf⟩
            obtain ⟨D0, hown, hDs, hhas⟩ := ownsMap_u64 Try.underlying33 hmh hborn (by show (1 : Nat) ≤ maxLen; decide) hKA
            have hbl : b < w.heap.size := (Array.getElem?_eq_some_iff.1 hcell).1
            have hpc : w.cell? ⟨b, off + 0 * sz + 0, none⟩ = some (.map (some mb)) := by
              simp only [World.cell?, hcell]
              simpa using hum
            have hseq := keys_gives Fence.wide 2 trivial rfl (by omega) ⟨b, off + 0 * sz + 0, none⟩ mb 1 D0 w hbl hpc hown hhas (by simp)
            have hcall := callsIn_wide.1 (appendSeq_in Fence.wide 3 trivial rfl (by omega) 59 #[.pointer (some ⟨b, off + 0 * sz + 0, none⟩)] trivial (run_numGo Try.func59 rfl rfl) _ _ (by rw [hDs]; show (1 : Nat) ≤ maxLen; decide) (by rw [hDs]; show (1 : Nat) * 8 ≤ _; decide) w hseq)
            refine hcall.mono ?_
            rintro e w' ⟨u, ss, rfl, hperm, hrow, hnil, hbelow⟩
            have hss : ss = [x] := List.perm_singleton.1 hperm
            subst hss
            rcases hrow.2 with ⟨_, h0⟩ | ⟨gb, cap, cur, rfl, hbase, hgb, r1, r2, r3, r4⟩
            · exact absurd h0 (by simp)
            · obtain ⟨hle, hS⟩ := hM.below (F' := E.F) hbelow (fun _ h => h) (fun b h => Nat.lt_of_lt_of_le (hM.Flt b h) hbelow.size) (fun b h _ => h)
              have hnone : E.mu (.O o.length) = none := by
                have := hM.obj o.length
                have hn : (stO o o.length).o[o.length]? = none := List.getElem?_eq_none (Nat.le_refl _)
                rw [hn] at this
                revert this
                cases E.mu (.O o.length) with
                | none => exact fun _ => rfl
                | some z => exact fun h => h.elim
              have hgl : gb < w'.heap.size := (Array.getElem?_eq_some_iff.1 hgb).1
              have hS2 := hS.addkey (key := .O o.length) (mv := .blk gb 0 1 1) (M' := stO (o ++ [.arr true 1 [[.v (.int .u64 x)]]]) o.length) (fun d e => by cases e) hnone (fun b' o' s' n' e => by
                cases e
                refine ⟨fun hF => ?_, hgl, .inr hbase, fun k o' s' n' hk => ?_⟩
                · have := hM.Flt _ hF
                  omega
                · have := (hM.own k _ _ _ _ hk).2.1
                  omega)
                (fun _ _ => rfl) (fun id hid => by
                  show (o ++ [_])[id]? = o[id]?
                  by_cases h : id < o.length
                  · rw [List.getElem?_append_left h]
                  · rw [List.getElem?_eq_none (by simp; have : id ≠ o.length := fun e => hid (by rw [e]); omega), List.getElem?_eq_none (by omega)]) rfl (by simp [stO]) (fun id e => by cases e; exact Nat.le_refl _) (fun d e => by cases e) (fun id e => by
                  cases e
                  have : (stO (o ++ [.arr true 1 [[.v (.int .u64 x)]]]) o.length).o[o.length]? = some (.arr true 1 [[.v (.int .u64 x)]]) := by
                    show (o ++ [_])[o.length]? = _
                    rw [List.getElem?_append_right (Nat.le_refl _), Nat.sub_self]
                    rfl
                  rw [this]
                  refine ⟨⟨rfl, rfl⟩, by decide, by simp, cur, 33, hgb, by simp at r1 r3 ⊢; omega, fun m c hc => ?_⟩
                  cases m with
                  | zero =>
                    simp at hc
                    subst hc
                    refine ⟨encU x, ?_, .v _ _ rfl⟩
                    have := congrArg (fun l => l[0]?) r4
                    simpa using this
                  | succ m => simp at hc)
              refine ⟨_, _, _, _, h, rfl, hS2, ?_⟩
              refine .mf (b := gb) (o := 0) (sz := 1) (n := 1) cap (by show addMu _ _ _ _ = _; unfold addMu; rw [if_pos rfl]) (by simpa using r1) ?_
              show 0 + cap * 1 ≤ sizeH w'.heap gb
              unfold sizeH
              rw [hgb]
              show 0 + cap * 1 ≤ cur.size
              omega
      · exact h.elim
    · exact h.elim
  · exact h.elim

theorem appX {cfg : Cfg} (hP : cfg.P = Try.prog) (hc : cfg.xc = appC) (hq : cfg.xq = fun _ _ => none) : XOK cfg :=
  ⟨fun f args o K h => by rw [hP]; rw [hc] at h; exact appC_sound f args o K h, fun f args o => by rw [hc]; exact appC_det f args o, fun f args r e => by rw [hq] at e; cases e⟩

end A
end Go.Proofs.Ytcckeabholabcaa
