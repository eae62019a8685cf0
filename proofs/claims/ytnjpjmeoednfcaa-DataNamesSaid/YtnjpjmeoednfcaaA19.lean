/- Slices that the call makes, as steps. -/
import Derived.Test.YtnjpjmeoednfcaaA18
import Derived.IntWalk
namespace Go.Proofs.Ytnjpjmeoednfcaa
namespace A
open Go
open Go.RowKit (Below)

theorem wrap_id {n : Int} (h0 : 0 ≤ n) (h1 : n < 9223372036854775808) : IntKind.wrap .i64 n = n := by
  rw [IntKind.wrap_i64]
  omega

def zrow (zero : Array Value) (n : Nat) : Array Value := (Array.range n).map (fun x => zero[x % zero.size]!)
theorem zrow_get {zero : Array Value} {n sz : Nat} (hs : zero.size = sz) {i r : Nat} (hr : r < sz) (hi : i * sz + r < n) : (zrow zero n)[i * sz + r]? = zero[r]? := by
  unfold zrow
  rw [Array.getElem?_map, Array.getElem?_range, if_pos hi, Option.map_some, hs]
  have : (i * sz + r) % sz = r := by rw [Nat.add_comm, Nat.add_mul_mod_self_right, Nat.mod_eq_of_lt hr]
  rw [this]
  have hrz : r < zero.size := by omega
  simp [hrz]
theorem zrow_size {zero : Array Value} {n : Nat} : (zrow zero n).size = n := by simp [zrow]

theorem zrow_rows {E : Env} {cs : List AV} {zero : Array Value} {sz n k : Nat} (hz : VRs E cs zero.toList) (hs : zero.size = sz) (hk : k * sz ≤ n) {i r : Nat} {row : List AV} {c : AV} (h1 : (List.replicate k cs)[i]? = some row) (h2 : row[r]? = some c) :
    ∃ u, (zrow zero n)[0 + i * sz + r]? = some u ∧ VR E c u := by
  rw [List.getElem?_replicate] at h1
  split at h1
  · rename_i hik
    cases h1
    obtain ⟨u, hu, hv⟩ := hz.get h2
    rw [Array.getElem?_toList] at hu
    have hr : r < sz := by rw [← hs]; exact (Array.getElem?_eq_some_iff.1 hu).1
    have hm : i * sz + sz ≤ k * sz := by rw [← Nat.succ_mul]; exact Nat.mul_le_mul_right sz hik
    exact ⟨u, by rw [Nat.zero_add, zrow_get hs hr (by omega)]; exact hu, hv⟩
  · cases h1

theorem run_askRoom {P : Program} {w : World} (n : Nat) : (askRoom n).run P w = .ok () w := by
  unfold askRoom
  split <;> rfl

section
variable {G : Gh} {E : Env} {S : St} {w : World} {P : Program} {o : Oper} {a : Act} {K : St → Prop}

theorem makeSlice_sound {t : TypeId} {X Y : Operand} (hM : SimM G pn E S w) (ht : TR E S.t a) (ho : o.op = .makeSlice t X Y)
    (h : getK S X fun l => getK S Y fun c => makeSliceK P t l c S fun S' r => putK o.dst r S' K) : XStep P G o a w K := by
  obtain ⟨l, h, hl⟩ := getK_elim h ht
  obtain ⟨c, h, hc⟩ := getK_elim h ht
  unfold makeSliceK at h
  split at h
  · rename_i e hu
    split at h
    · rename_i i hi
      replace h := intOf_sound h hl
      obtain ⟨kl, nl, el, h⟩ := h
      replace h := intOf_sound h hc
      obtain ⟨kc, nc, ec, h⟩ := h
      replace h := Chk_elim h; obtain ⟨hb, h⟩ := h
      simp only [Bool.and_eq_true, decide_eq_true_eq] at hb
      obtain ⟨⟨⟨⟨h1, h2⟩, h3⟩, h4⟩, h5⟩ := hb
      have h0 : 0 < i.size := Nat.le_of_ble_eq_true h5
      obtain ⟨i', z, cs, hi', hz, hzs, h, hcs⟩ := zeroRow_sound h
      rw [hi] at hi'
      cases hi'
      replace h := Chk_elim h; obtain ⟨hrf, h⟩ := h
      rw [forceO_iff, putK_iff] at h
      have hne : nc.toNat * i.size ≠ 0 ∨ nc.toNat = 0 := by
        by_cases hh : nc.toNat = 0
        · exact .inr hh
        · exact .inl (Nat.mul_ne_zero hh (by omega))
      have hcl : cs.length = i.size := by have := (hcs E).1; simpa [hzs] using this
      refine newobj_sound (ob := .cells (zrow z.cells (nc.toNat * i.size)) e) (x := .arr true i.size (List.replicate nl.toNat cs)) (sz := i.size) (n := nl.toNat)
        (z := .slice (some ⟨w.heap.size, 0, none⟩) nl.toNat nc.toNat) hM ht ?_ (fun E' hle hh => ?_) (fun E' hh hmu => ?_) h
      · have hw1 : IntKind.i64.wrap nl = nl := wrap_id h1 (by omega)
        have hw2 : IntKind.i64.wrap nc = nc := wrap_id (by omega) (by omega)
        have hx : (execOp a.eval o) = (do pure (.value (← Instr.makeSlice t (.int kl nl) (.int kc nc)))) := by
          unfold execOp
          rw [ho, ← el, ← ec]
        rw [hx, Sem.run_bind]
        unfold Instr.makeSlice
        simp only [Sem.run_bind, run_underlying hu, Result.andThen_ok, asInt, asIntOf, Sem.run_pure, run_typeInfo w hi, hw1, hw2]
        have hcond : ((decide (nc < 0) || decide (↑i.bytes * nc > 2 ^ 48)) || decide (nl < 0) || decide (nl > nc)) = false := by
          simp only [Bool.or_eq_false_iff, decide_eq_false_iff_not]
          refine ⟨⟨⟨by omega, ?_⟩, by omega⟩, by omega⟩
          have : ((2 : Int) ^ 48) = 281474976710656 := by decide
          rw [this]
          omega
        rw [hcond]
        simp only [Bool.false_eq_true, if_false, Sem.run_bind, run_askRoom, Result.andThen_ok, run_sizeOf hi]
        by_cases hh : nc.toNat * i.size = 0
        · rw [if_pos hh]
          have e0 : zrow z.cells (nc.toNat * i.size) = (Array.range (nc.toNat * i.size)).map (fun x => (#[] : Array Value)[x % (#[] : Array Value).size]!) := by
            apply Array.ext_getElem?
            intro m
            rw [hh]
            simp [zrow]
          rw [e0]
          rfl
        · rw [if_neg hh]
          simp only [Sem.run_bind, run_zeroValue hi hz, Result.andThen_ok, Sem.run_pure]
          rfl
      · refine ⟨⟨rfl, by simp⟩, ?_⟩
        rw [hh]
        refine ArrR.of_rows h0 (fun r hr => by rw [List.eq_of_mem_replicate hr]; exact hcl) (push_get w _) ?_ (fun i' row r c' h6 h7 => ?_)
        · rw [List.length_replicate, zrow_size, Nat.zero_add]
          exact Nat.mul_le_mul_right _ (by omega)
        · obtain ⟨u, hu', hv⟩ := zrow_rows (hcs E'.fz) hzs (n := nc.toNat * i.size) (Nat.mul_le_mul_right _ (by omega)) h6 h7
          exact ⟨u, hu', hv⟩
      · refine .mf _ hmu (by omega) ?_
        rw [hh]
        unfold sizeH
        rw [push_get]
        simp [zrow_size]
    · exact False.elim h
  · exact False.elim h
end

end A
end Go.Proofs.Ytnjpjmeoednfcaa
