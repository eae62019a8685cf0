/- append and map stores, as steps. -/
import Derived.Test.YtnjpjmeoednfcaaA23
namespace Go.Proofs.Ytnjpjmeoednfcaa
namespace A
open Go
open Go.RowKit (Below)

section
variable {G : Gh} {E : Env} {S : St} {w : World} {P : Program} {o : Oper} {a : Act}

theorem rows_put {rows src : List (List AV)} {pp : Nat} (h : pp + src.length ≤ rows.length) : (∀ i, (rows.take pp ++ (src ++ rows.drop (pp + src.length)))[i]? = if pp ≤ i ∧ i < pp + src.length then src[i - pp]? else rows[i]?) ∧
    (rows.take pp ++ (src ++ rows.drop (pp + src.length))).length = rows.length := by
  refine ⟨fun i => ?_, by simp; omega⟩
  have ht : (rows.take pp).length = pp := by simp; omega
  by_cases h1 : i < pp
  · rw [List.getElem?_append_left (by omega), if_neg (by omega), List.getElem?_take, if_pos h1]
  · rw [List.getElem?_append_right (by omega), ht]
    by_cases h2 : i < pp + src.length
    · rw [List.getElem?_append_left (by omega), if_pos ⟨by omega, h2⟩]
    · rw [List.getElem?_append_right (by omega), if_neg (by omega), List.getElem?_drop]
      congr 1
      omega

theorem slice_of {E : Env} {w : World} {sz : Nat} {fl : Bool} {rows : List (List AV)} {u : Value} (h : SlC E w sz fl rows u) (hr : ∀ r ∈ rows, r.length = sz) (P : Program) :
    ∃ A c olds, u = .slice A rows.length c ∧ VRs (envOf E fl) rows.flatten olds ∧ (Builtin.firstCells sz rows.length u).run P w.drew = .ok olds.toArray w.drew := by
  obtain ⟨A, c, us, h1, _, h3, _, _, h6⟩ := h.first (P := P) hr
  exact ⟨A, c, us, h1, h3, h6 w.drew rfl⟩

theorem appendK_sound {ts : List TypeId} {ty : TypeId} {bs x : AV} {ub ux : Value} {k : St → AV → Prop} (hM : SimM G pn E S w) (ht : TR E S.t a) (h : appendK P ts bs x S k) (hb : VR E bs ub) (hx : VR E x ux) :
    ∃ t0 t1, ts = [t0, t1] ∧ AppOut P G w a (Builtin.append_ #[t0, t1] ty #[ub, ux]) k := by
  unfold appendK at h
  split at h
  · rename_i t0 t1
    refine ⟨t0, t1, rfl, ?_⟩
    split at h
    · rename_i e hu
      split at h
      · rename_i i hi
        replace h := Chk_elim h; obtain ⟨hc, h⟩ := h
        simp only [Bool.and_eq_true] at hc
        obtain ⟨⟨⟨hc1, hc2⟩, hz⟩, hc3⟩ := hc
        have h0 : 0 < i.size := Nat.le_of_ble_eq_true hc1
        have hb0 : 0 < i.bytes := Nat.le_of_ble_eq_true hc2
        have hk : (∃ e', P.underlying t1 = some (.slice e')) ∨ P.underlying t1 = some .string := by
          revert hc3
          split
          · rename_i e' h'; exact fun _ => .inl ⟨e', h'⟩
          · rename_i h'; exact fun _ => .inr h'
          · intro h'; cases h'
        have hrk := rowsK_sound hM h hx
        clear h
        obtain ⟨fl, src, h, hrs, hsrc⟩ := hrk
        replace h := Chk_elim h; obtain ⟨hok, h⟩ := h
        obtain ⟨news, hs, hn⟩ := src_of (P := P) (E := E) hk hrs hok hsrc
        split at h
        · replace h := Chk_elim h; obtain ⟨hbd, h⟩ := h
          rw [forceO_iff] at h
          cases hb
          exact case_fresh hM ht hu hi h0 hb0 hz hrs rfl hs hn (Nat.le_of_ble_eq_true hbd) h
        · replace h := Chk_elim h; obtain ⟨hbd, h⟩ := h
          rw [forceO_iff] at h
          cases hb
          · exact case_fresh hM ht hu hi h0 hb0 hz hrs rfl hs hn (Nat.le_of_ble_eq_true hbd) h
          · exact case_fresh hM ht hu hi h0 hb0 hz hrs rfl hs hn (Nat.le_of_ble_eq_true hbd) h
        · rename_i id
          split at h
          · rename_i fl' sz rows hob
            replace h := Chk_elim h; obtain ⟨hc, h⟩ := h
            simp only [Bool.and_eq_true] at hc
            obtain ⟨⟨hsz, hbd⟩, hfl⟩ := hc
            have hsz := Nat.eq_of_beq_eq_true hsz
            have hbd := Nat.le_of_ble_eq_true hbd
            subst hsz
            have hid : id < S.o.length := (List.getElem?_eq_some_iff.1 hob).1
            obtain ⟨hsl, hr⟩ := mf_slC hM hob hb
            rcases obj_arr hM hob with ⟨h1, h2⟩ | ⟨b, o, h1, h2⟩
            · subst h2
              have hcap : ∃ A, ub = .slice A 0 0 := by
                cases hb with
                | mfn _ => exact ⟨_, rfl⟩
                | mfe a _ => exact ⟨_, rfl⟩
                | mf cap hm _ _ => rw [h1] at hm; cases hm
              obtain ⟨A, hA⟩ := hcap
              by_cases he : src = []
              · subst he
                exact case_same hM ht hu hi hid hA hs h
              · obtain ⟨A', c, olds, h3, h4, h5⟩ := slice_of hsl hr P
                rw [hA] at h3
                cases h3
                exact case_grow hM ht hu hi h0 hb0 hz hid hfl hr hrs hA h4 h5 hs hn (by have := List.length_pos_iff.2 he; simpa using this) hbd h
            · cases hb with
              | mfn hm => rw [h1] at hm; cases hm
              | mfe a hm => rw [h1] at hm; cases hm
              | mf cap hm hn' hc' =>
                rw [h1] at hm
                cases hm
                by_cases hroom : rows.length + src.length ≤ cap
                · exact case_room hM ht hu hi h0 hid hfl hrs rfl h2 hc' ⟨_, _, _, h1⟩ hs hn hroom h
                · obtain ⟨A', c, olds, h3, h4, h5⟩ := slice_of hsl hr P
                  cases h3
                  exact case_grow hM ht hu hi h0 hb0 hz hid hfl hr hrs rfl h4 h5 hs hn (by omega) hbd h
          · exact False.elim h
        · rename_i id off len ext
          split at h
          · rename_i fl' sz rows hob
            replace h := Chk_elim h; obtain ⟨hc, h⟩ := h
            simp only [Bool.and_eq_true] at hc
            obtain ⟨hsz, hfl⟩ := hc
            have hsz := Nat.eq_of_beq_eq_true hsz
            subst hsz
            have hid : id < S.o.length := (List.getElem?_eq_some_iff.1 hob).1
            obtain ⟨hsl, hr⟩ := msl_slC hM hob hb
            obtain ⟨e1, e2⟩ := flags (E := E) hfl
            have eflag : (fl' && fl) = fl' := by revert hfl; cases fl' <;> cases fl <;> intro h <;> first | rfl | (cases h; done)
            split at h
            · rename_i hext
              have hext := Nat.le_of_ble_eq_true hext
              replace h := Chk_elim h; obtain ⟨hle, h⟩ := h
              have hle := Nat.le_of_ble_eq_true hle
              rw [forceO_iff] at h
              cases hb with
              | msle _ A hm =>
                have hsn : src = [] := List.eq_nil_of_length_eq_zero (by omega)
                subst hsn
                have hnews : news = [] := List.eq_nil_of_length_eq_zero (by rw [hs.newsLen]; simp)
                subst hnews
                have hrun := run_append_nothing (P := P) w t0 t1 ty e i hu hi A 0 0 (Nat.le_refl _) ux hs
                have erows : S.o.set id (.arr (fl' && fl) i.size (rows.take (off + 0) ++ ([] ++ rows.drop (off + 0 + ([] : List (List AV)).length)))) = S.o := by
                  rw [eflag]
                  simp only [List.nil_append, List.length_nil, Nat.add_zero, List.take_append_drop]
                  apply List.ext_getElem?
                  intro j
                  rw [List.getElem?_set]
                  by_cases hj : id = j
                  · subst hj; rw [if_pos rfl, if_pos hid, hob]
                  · rw [if_neg hj]
                rw [erows] at h
                exact ⟨_, _, _, _, E, h, hrun, hM.congr rfl rfl rfl, ht, .msle off A hm⟩
              | msl _ _ _ cap hm h3 h4 h5 =>
                rename_i b o sz n
                rcases obj_arr hM hob with ⟨g1, g2⟩ | ⟨b', o', g1, g2⟩
                · rw [g1] at hm; cases hm
                · rw [g1] at hm
                  cases hm
                  obtain ⟨us, tb, hblk, hl, hget⟩ := g2.get
                  rw [hM.hp] at hblk h5
                  have hcs : o + (off + cap) * i.size ≤ us.size := by unfold sizeH at h5; rw [hblk] at h5; exact h5
                  have hm1 : (off + (len + src.length)) * i.size ≤ (off + cap) * i.size := Nat.mul_le_mul_right _ (by omega)
                  rw [Nat.add_mul off] at hm1
                  have hrun := room_run (ty := ty) (off := o + off * i.size) (L := len) (c := cap) hu hi hs (by omega) hblk (by omega)
                  have hblt : b < w.heap.size := (Array.getElem?_eq_some_iff.1 hblk).1
                  have hnb := heap_setBlk (ob := .cells (setAll us (o + off * i.size + len * i.size) news 0) tb (0, 0)) hblt
                  have hss : sizeH (setBlk w b (.cells (setAll us (o + off * i.size + len * i.size) news 0) tb (0, 0))).heap b = sizeH w.heap b := by
                    unfold sizeH
                    rw [hnb, hblk]
                    simp [setAll_size]
                  obtain ⟨f1, f2⟩ := rows_put (rows := rows) (src := src) (pp := off + len) (by omega)
                  have hpos : o + (off + len) * i.size = o + off * i.size + len * i.size := by rw [Nat.add_mul]; omega
                  have harr := ArrR.put (E1 := envOf E (fl' && fl)) (h' := (setBlk w b (.cells (setAll us (o + off * i.size + len * i.size) news 0) tb (0, 0))).heap) (pp := off + len) h0 g2.2.1 hrs (by rw [e1]; exact hget) (e2 hn) (by rw [f2]; exact hl) f1 (by rw [hpos]; exact hnb)
                  have hle' := hM.setblk_le g1 hss
                  obtain ⟨_, hS⟩ := hM.setblk g1 hss (M' := { t := S.t, l := S.l, o := S.o.set id (.arr (fl' && fl) i.size (rows.take (off + len) ++ (src ++ rows.drop (off + len + src.length)))), b := S.b })
                    (fun _ _ => rfl) (fun j hj => by
                      show (S.o.set id _)[j]? = _
                      rw [List.getElem?_set, if_neg (fun e => hj (by rw [e]))]) rfl (by simp) (fun d e => by cases e) (fun j e => by
                      cases e
                      rw [g1]
                      show ObR _ (S.o.set id _)[id]? _
                      rw [List.getElem?_set, if_pos rfl, if_pos hid]
                      refine ⟨⟨rfl, f2.symm⟩, ?_⟩
                      cases hff : (fl' && fl) with
                      | true => rw [hff] at harr; exact harr.mono hle'.fz
                      | false => rw [hff] at harr; exact harr.mono hle'.ob)
                  refine ⟨_, _, _, _, _, h, hrun, hS, ht.mono hle', .msl off (len + src.length) (ext - src.length) cap g1 (by omega) (by omega) ?_⟩
                  show _ ≤ sizeH (setBlk _ _ _).heap b
                  rw [hss]
                  exact h5
            · rename_i hext
              have hext : ¬ (src.length ≤ ext) := fun hh => by rw [Nat.ble_eq_true_of_le hh] at hext; cases hext
              replace h := Chk_elim h; obtain ⟨hbd, h⟩ := h
              have hbd := Nat.le_of_ble_eq_true hbd
              obtain ⟨A', c, olds, h3, h4, h5⟩ := slice_of hsl hr P
              have hlen : ((rows.drop off).take len).length = len := by
                cases hb with
                | msle _ A hm => simp
                | msl _ _ _ cap hm h6 h7 h8 =>
                  rcases obj_arr hM hob with ⟨g1, g2⟩ | ⟨b', o', g1, g2⟩
                  · rw [g1] at hm; cases hm
                  · rw [g1] at hm
                    cases hm
                    simp
                    omega
              by_cases hroom : len + src.length ≤ c
              · cases hb with
                | msle _ A hm =>
                  have := congrArg (fun v => match v with | Value.slice _ _ c => c | _ => 0) h3
                  simp only at this
                  omega
                | msl _ _ _ cap hm h6 h7 h8 =>
                  rename_i b o sz n
                  injection h3 with q1 q2 q3
                  subst q3
                  rcases obj_arr hM hob with ⟨g1, g2⟩ | ⟨b', o', g1, g2⟩
                  · rw [g1] at hm; cases hm
                  · rw [g1] at hm
                    cases hm
                    exact case_room hM ht hu hi h0 hid hfl hrs (rows := (rows.drop off).take len) (by rw [hlen]) (drop_rows g2 (by omega)) (by rw [Nat.add_mul] at h8; omega) ⟨_, _, _, g1⟩ hs hn (by rw [hlen]; exact hroom) h
              · exact case_grow hM ht hu hi h0 hb0 hz hid hfl hr hrs h3 h4 h5 hs hn (by rw [hlen]; omega) (by rw [hlen]; exact hbd) h
          · exact False.elim h
        · exact False.elim h
      · exact False.elim h
    · exact False.elim h
  · exact False.elim h

theorem append_sound {K : St → Prop} {c : Call} {x y : AV} {ub ux : Value} (hM : SimM G pn E S w) (ht : TR E S.t a) (ho : o.op = .call c) (hcal : c.callee = .builtin .append) (hargs : c.args.toList.map a.eval = [ub, ux]) (hx : VR E x ub) (hy : VR E y ux)
    (h : appendK P c.argTypes.toList x y S fun S' r => putK o.dst r S' K) : XStep P G o a w K := by
  obtain ⟨t0, t1, hts, S', r, z, w', E', hk, hrun, hS, htr, hv⟩ := appendK_sound (ty := o.type) hM ht h hx hy
  have e1 : c.argTypes = #[t0, t1] := by apply Array.ext'; simpa using hts
  have e2 : c.args.map a.eval = #[ub, ux] := by apply Array.ext'; simpa using hargs
  rw [putK_iff] at hk
  intro next Q hn
  refine wp_value (z := z) (w' := w') ?_ (hn _ E' _ w' hk (hS.congr setT_l setT_o setT_b) (htr.put hv))
  simp [execOp, ho, resolve, hcal, e1, e2, invoke, builtin, hrun]
end

end A
end Go.Proofs.Ytnjpjmeoednfcaa
