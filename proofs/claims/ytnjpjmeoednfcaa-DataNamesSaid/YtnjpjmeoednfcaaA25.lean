/- Map stores, as steps. -/
import Derived.Test.YtnjpjmeoednfcaaA24
namespace Go.Proofs.Ytnjpjmeoednfcaa
namespace A
open Go
open Go.RowKit (Below)

section
variable {G : Gh} {E : Env} {S : St} {w : World} {P : Program} {o : Oper} {a : Act}

theorem run_setObj {b : Nat} {ms : Array MapEntry} {clock : Nat} {ob : Obj} (h : w.heap[b]? = some (.map ms clock)) : (setObj b ob).run P w = .ok () (setBlk w b ob) := by
  simp [setObj, Sem.run, h, setBlk]

/-- A map's object set anew. -/
theorem map_set (hM : SimM G pn E S w) (ht : TR E S.t a) {id b x y n clock clock' : Nat} {ms ms' : Array MapEntry} {fl : Bool} {es es' : List (AV × AV)} (hob : S.o[id]? = some (.mapo fl es)) (hmu : E.mu (.O id) = some (.blk b x y n))
    (hb : w.heap[b]? = some (.map ms clock)) {fl' : Bool} (hl : es'.length = ms'.size)
    (he : ∀ (i : Nat) (e : AV × AV) (m : MapEntry), es'[i]? = some e → ms'[i]? = some m → toK e.1 = some m.key ∧ VR (envOf E fl') e.2 m.val) :
    ∃ E', SimM G pn E' { t := S.t, l := S.l, o := S.o.set id (.mapo fl' es'), b := S.b } (setBlk w b (.map ms' clock')) ∧ TR E' S.t a := by
  have hid : id < S.o.length := (List.getElem?_eq_some_iff.1 hob).1
  have hblt : b < w.heap.size := (Array.getElem?_eq_some_iff.1 hb).1
  have hnb := heap_setBlk (ob := .map ms' clock') hblt
  have hss : sizeH (setBlk w b (.map ms' clock')).heap b = sizeH w.heap b := by
    unfold sizeH
    rw [hnb, hb]
  have hle' := hM.setblk_le hmu hss
  obtain ⟨_, hS⟩ := hM.setblk hmu hss (M' := { t := S.t, l := S.l, o := S.o.set id (.mapo fl' es'), b := S.b })
    (fun _ _ => rfl) (fun j hj => by
      show (S.o.set id _)[j]? = _
      rw [List.getElem?_set, if_neg (fun e => hj (by rw [e]))]) rfl (by simp) (fun d e => by cases e) (fun j e => by
      cases e
      rw [hmu]
      show ObR _ (S.o.set id _)[id]? _
      rw [List.getElem?_set, if_pos rfl, if_pos hid]
      refine ⟨ms', clock', hnb, hl, fun i e m h1 h2 => ?_⟩
      obtain ⟨h3, h4⟩ := he i e m h1 h2
      refine ⟨h3, ?_⟩
      cases fl' with
      | true => exact h4.mono hle'.fz
      | false => exact h4.mono hle'.ob)
  exact ⟨_, hS, ht.mono hle'⟩

theorem flagm {E : Env} {fl : Bool} {x : AV} {u : Value} (hn : noL 4 x = true) (hv : VR E x u) : VR (envOf E (fl && rfree 4 x)) x u ∧ ∀ {c : AV} {z : Value}, VR (envOf E fl) c z → VR (envOf E (fl && rfree 4 x)) c z := by
  cases fl with
  | false => exact ⟨noL_ob 4 hn hv, fun h => h⟩
  | true =>
    cases hr : rfree 4 x with
    | true => exact ⟨rfree_fz 4 hr hv, fun h => h⟩
    | false => exact ⟨noL_ob 4 hn hv, fun h => h.fz_ob⟩

theorem mapUpdateK_sound {t : TypeId} {m key x : AV} {um uk ux : Value} {K : St → Prop} (hM : SimM G pn E S w) (ht : TR E S.t a) (h : mapUpdateK P t m key x S K) (hm : VR E m um) (hk : VR E key uk) (hx : VR E x ux) :
    ∃ S' w' E', K S' ∧ (Instr.mapUpdate t um uk ux).run P w = .ok () w' ∧ SimM G pn E' S' w' ∧ TR E' S'.t a := by
  unfold mapUpdateK at h
  split at h
  · rename_i kt vt hu
    split at h
    · rename_i id
      split at h
      · rename_i fl es hob
        replace h := Chk_elim h; obtain ⟨hnl, h⟩ := h
        cases hm with
        | mp hmu =>
          rename_i b y z n
          have hobr := hM.obj id
          rw [hob, hmu] at hobr
          obtain ⟨ms, clock, hb, hl, he⟩ := hobr
          rw [hM.hp] at hb
          obtain ⟨f1, f2⟩ := flagm (fl := fl) hnl hx
          have hfk := findK_sound h hk hl (fun i e m h1 h2 => (he i e m h1 h2).1) w
          clear h
          obtain ⟨r, h, htk, _, hfind, hval⟩ := hfk
          replace h := Chk_elim h; obtain ⟨hck, h⟩ := h
          have hck' : (Instr.checkKey false 10000 kt uk).run P w = .ok () w := by
            unfold ckOk at hck
            split at hck
            · rename_i c hc
              exact pureEval_run _ w hc
            · cases hck
          cases r with
          | none =>
            simp only [Option.map_none] at h
            rw [forceO_iff] at h
            obtain ⟨E', hS, htr⟩ := map_set hM ht hob hmu hb (ms' := ms.push { key := uk, val := ux, born := clock }) (clock' := clock + 1) (es' := es ++ [(key, x)]) (fl' := fl && rfree 4 x) (by simp [hl]) (fun i e m h1 h2 => by
              rcases Nat.lt_trichotomy i es.length with hi | hi | hi
              · rw [List.getElem?_append_left hi] at h1
                rw [Array.getElem?_push, if_neg (by omega)] at h2
                obtain ⟨h3, h4⟩ := he i e m h1 h2
                exact ⟨h3, f2 h4⟩
              · subst hi
                rw [List.getElem?_append_right (Nat.le_refl _), Nat.sub_self] at h1
                rw [Array.getElem?_push, if_pos hl] at h2
                cases h1
                cases h2
                exact ⟨htk, f1⟩
              · rw [List.getElem?_eq_none (by simp; omega)] at h1
                cases h1)
            refine ⟨_, _, E', h, ?_, hS, htr⟩
            unfold Instr.mapUpdate
            simp only [Sem.run_bind, run_underlying hu, Result.andThen_ok, run_getObj hb, hck', hfind, run_setObj hb]
          | some r =>
            obtain ⟨i, v⟩ := r
            simp only [Option.map_some] at h
            replace h := Chk_elim h; obtain ⟨hsb, h⟩ := h
            rw [forceO_iff] at h
            have hv0 := hval i v rfl
            rw [Option.map_eq_some_iff] at hv0
            obtain ⟨m0, hm0, _⟩ := hv0
            have hims : i < ms.size := (Array.getElem?_eq_some_iff.1 hm0).1
            have hie : es[i]? = some es[i] := List.getElem?_eq_getElem (by omega)
            have hkey0 := (he i _ m0 hie hm0).1
            rw [hie] at hsb
            simp only [Option.bind_some, hkey0, Option.getD_some] at hsb
            obtain ⟨E', hS, htr⟩ := map_set hM ht hob hmu hb (ms' := ms.modify i fun e => { e with key := uk, val := ux }) (clock' := clock) (es' := es.set i (key, x)) (fl' := fl && rfree 4 x) (by simp [hl]) (fun j e m h1 h2 => by
              rw [List.getElem?_set] at h1
              rw [Array.getElem?_modify] at h2
              by_cases hj : i = j
              · subst hj
                rw [if_pos rfl, if_pos (by omega)] at h1
                rw [if_pos rfl, hm0] at h2
                cases h1
                cases h2
                exact ⟨htk, f1⟩
              · rw [if_neg hj] at h1 h2
                obtain ⟨h3, h4⟩ := he j e m h1 h2
                exact ⟨h3, f2 h4⟩)
            refine ⟨_, _, E', h, ?_, hS, htr⟩
            have hstay : (Instr.keyThatStays (((ms[i]?).map (·.key)).getD uk) uk).run P w = .ok uk w := by
              rw [hm0]
              unfold Instr.keyThatStays
              simp only [Option.map_some, Option.getD_some]
              rw [if_pos hsb]
              rfl
            unfold Instr.mapUpdate
            simp only [Sem.run_bind, run_underlying hu, Result.andThen_ok, run_getObj hb, hck', hfind, hstay, run_setObj hb]
      · exact False.elim h
    · exact False.elim h
  · exact False.elim h

theorem mapUpdate_sound {K : St → Prop} {t : TypeId} {X Y Z : Operand} (hM : SimM G pn E S w) (ht : TR E S.t a) (ho : o.op = .mapUpdate t X Y Z)
    (h : getK S X fun m => getK S Y fun key => getK S Z fun x => mapUpdateK P t m key x S fun S' => putK o.dst .bad S' K) : XStep P G o a w K := by
  obtain ⟨m, h, hm⟩ := getK_elim h ht
  obtain ⟨key, h, hk⟩ := getK_elim h ht
  obtain ⟨x, h, hx⟩ := getK_elim h ht
  obtain ⟨S', w', E', hK, hrun, hS, htr⟩ := mapUpdateK_sound hM ht h hm hk hx
  rw [putK_iff] at hK
  intro next Q hn
  unfold Oper.wp
  have : (execOp a.eval o).run P w = .ok .skip w' := by simp [execOp, ho, hrun]
  rw [this]
  exact hn _ E' (a.put o.dst undef) w' hK (hS.congr setT_l setT_o setT_b) (htr.put (.bad _ _))
end

end A
end Go.Proofs.Ytnjpjmeoednfcaa
