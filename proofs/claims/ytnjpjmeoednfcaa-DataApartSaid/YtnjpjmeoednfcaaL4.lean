/- What is laid out lies apart, in its part, and is found. Plain lists, no program in sight. -/
import Derived.Test.YtnjpjmeoednfcaaL3a
namespace Go.Proofs.Ytnjpjmeoednfcaa
open Go A Srt

theorem pick_spec (n : Nat) (a m : Int) (h1 : 1 ≤ m) (h2 : m ≤ 1000000) : ∃ k, kit_Pick n a m = some k ∧ 0 ≤ k ∧ k < m := by
  have e1 : a.tmod m < m := Int.tmod_lt_of_pos a (by omega)
  have e2 : -m < a.tmod m := by
    have := Int.tmod_lt_of_pos (-a) (show (0 : Int) < m by omega)
    rw [Int.neg_tmod] at this
    omega
  unfold kit_Pick remW
  rw [if_neg (by simp; omega), grd_pos (by simp; omega)]
  split
  · rename_i h
    have h := of_decide_eq_true h
    rw [addI (by omega) (by omega)]
    exact ⟨_, rfl, by omega, by omega⟩
  · rename_i h
    simp only [decide_eq_true_eq] at h
    exact ⟨_, rfl, by omega, by omega⟩


def allP : Piece → Bool := fun _ => true
theorem tot_perm (p : Piece → Bool) {l r : List Piece} (h : l.Perm r) : tot p l = tot p r := by
  induction h with
  | nil => rfl
  | cons x _ ih => simp only [tot]; rw [ih]
  | swap x y l => simp only [tot]; omega
  | trans _ _ ih1 ih2 => rw [ih1, ih2]
theorem nxt_eq {a : Int} {p : Piece} (h : may p) (h0 : 0 ≤ a) (h1 : a ≤ 10000000) : nxt a p = a + 8 * p.Size := by
  unfold may at h
  unfold nxt
  rw [wrapU (by omega) (by omega), mulU (by omega) (by omega), addU (by omega) (by omega)]
theorem endA_eq : ∀ (l : List Piece) (a : Int), (∀ x ∈ l, may x) → 0 ≤ a → a + 8 * tot allP l ≤ 10000000 → endA a l = a + 8 * tot allP l
  | [], a, _, _, _ => by simp [endA, tot]
  | p :: l, a, h, h0, h1 => by
    have hp := h p List.mem_cons_self
    have hp2 := hp
    unfold may at hp2
    have hn : 0 ≤ tot allP l := tot_nonneg (fun x hx => by have := (h x (List.mem_cons_of_mem _ hx)).1; omega)
    have ht : tot allP (p :: l) = p.Size + tot allP l := by simp [tot, allP]
    unfold endA
    rw [ht] at h1 ⊢
    rw [nxt_eq hp h0 (by omega), endA_eq l _ (fun x hx => h x (List.mem_cons_of_mem _ hx)) (by omega) (by omega)]
    omega
theorem seats_mem : ∀ (l : List Piece) (a : Int), (∀ x ∈ l, may x) → 0 ≤ a → a + 8 * tot allP l ≤ 10000000 → ∀ s ∈ seats a l, a ≤ s.Addr ∧ s.Addr + 8 * s.Piece.Size ≤ a + 8 * tot allP l ∧ s.Piece ∈ l
  | [], a, _, _, _, s, hs => by cases hs
  | p :: l, a, h, h0, h1, s, hs => by
    have hp := h p List.mem_cons_self
    have hp2 := hp
    unfold may at hp2
    have hn : 0 ≤ tot allP l := tot_nonneg (fun x hx => by have := (h x (List.mem_cons_of_mem _ hx)).1; omega)
    have ht : tot allP (p :: l) = p.Size + tot allP l := by simp [tot, allP]
    rw [ht] at h1 ⊢
    unfold seats at hs
    rcases List.mem_cons.1 hs with rfl | hs
    · exact ⟨Int.le_refl _, by dsimp only; omega, List.mem_cons_self⟩
    · rw [nxt_eq hp h0 (by omega)] at hs
      have := seats_mem l _ (fun x hx => h x (List.mem_cons_of_mem _ hx)) (by omega) (by omega) s hs
      exact ⟨by omega, by omega, List.mem_cons_of_mem _ this.2.2⟩
theorem notAt {addr : Int} {s : Seat} (hs : may s.Piece) (h0 : 0 ≤ s.Addr) (h1 : s.Addr + 8 * s.Piece.Size ≤ addr) (h2 : addr ≤ 20000000) : isAt8 addr s = false := by
  unfold may at hs
  have e : decide (quoW .u64 (subW .u64 addr s.Addr) 8 < IntKind.wrap .u64 s.Piece.Size) = false := by
    unfold quoW
    rw [subU (by omega) (by omega), Int.tdiv_eq_ediv_of_nonneg (by omega), wrapU (by omega) (by omega), wrapU (by omega) (by omega)]
    simp
    omega
  unfold isAt8 isAt
  rw [e]
  simp
theorem isAt_in {q t : Int} {s : Seat} (hs : may s.Piece) (hA : s.Addr = 1048576 + 8 * t) (ht : 0 ≤ t) (ht2 : t ≤ 1000000) (hq : 0 ≤ q) (hq2 : q < s.Piece.Size) :
    isAt8 (addW .u64 s.Addr (mulW .u64 8 (IntKind.wrap .u64 q))) s = true ∧ nOf (addW .u64 s.Addr (mulW .u64 8 (IntKind.wrap .u64 q))) s = q := by
  unfold may at hs
  have e : addW .u64 s.Addr (mulW .u64 8 (IntKind.wrap .u64 q)) = s.Addr + 8 * q := by
    rw [wrapU (by omega) (by omega), mulU (by omega) (by omega), addU (by omega) (by omega)]
  have e2 : quoW .u64 (subW .u64 (s.Addr + 8 * q) s.Addr) 8 = q := by
    unfold quoW
    rw [subU (by omega) (by omega), show s.Addr + 8 * q - s.Addr = 8 * q by omega, Int.mul_tdiv_cancel_left _ (by decide), wrapU (by omega) (by omega)]
  rw [e]
  constructor
  · unfold isAt8 isAt
    rw [e2, wrapU (by omega) (by omega)]
    have e3 : remW .u64 (s.Addr + 8 * q) 8 = 0 := by
      unfold remW
      rw [hA, show 1048576 + 8 * t + 8 * q = 8 * (131072 + t + q) by omega, Int.mul_tmod_right]
    rw [e3]
    simp
    omega
  · unfold nOf
    rw [e2, wrapI (by omega) (by omega)]

theorem apart_true (l : List Piece) (a : Int) : law_DataApart 1000 l a = some true := by
  unfold law_DataApart law_lives
  simp only [Option.bind_some, Bool.not_true, Bool.false_eq_true, if_false]
  obtain ⟨y, hy, hlen⟩ := light_spec 1000 l (by omega)
  rw [hy]
  simp only [Option.bind_some]
  cases y with
  | false => rfl
  | true =>
  have hlen := hlen rfl
  simp only [Bool.not_true, Bool.false_eq_true, if_false]
  rw [dataCheck_ 1000 l (by omega) (by omega)]
  simp only [Option.bind_some]
  by_cases hc : chkR [] 0 l = 0
  case neg => rw [if_pos (by simpa using hc)]
  rw [if_neg (by simpa using hc)]
  obtain ⟨hck, hok⟩ := chk_ok 1000 l hlen (by omega) hc
  obtain ⟨r, hst, hinc, hlay⟩ := lay_okD 1000 l hlen (by omega) hc
  have hown : kit_Own_Piece_S 1000 l = some () := by
    unfold kit_Own_Piece_S
    rw [grd_pos (by simp; omega)]
  rw [hown, hlay]
  simp only [Option.bind_some]
  rw [if_neg (by decide), if_neg (by simp [seats_len, hst.len])]
  -- what is known of the row
  have hr : ∀ x ∈ r, may x := fun x hx => hok.1 x (hst.mem.1 hx)
  have hrp : ∀ x ∈ r, 0 ≤ x.Size := fun x hx => by have := (hr x hx).1; omega
  have htr : ∀ p, tot p l = tot p r := fun p => tot_perm p hst.1
  have htot : tot allP r ≤ 65536 := by rw [← htr]; exact hok.2
  have hrl : r.length ≤ 40 := by rw [hst.len]; exact hlen
  have htk : ∀ k, tot allP (r.take k) ≤ tot allP r := fun k => tot_take_le hrp k
  have htk0 : ∀ k, 0 ≤ tot allP (r.take k) := fun k => tot_nonneg (fun x hx => hrp x (List.mem_of_mem_take hx))
  have hapart : r.Pairwise (fun p x => sameK p x = false) := by
    refine (List.Perm.pairwise_iff (fun {p x} h => ?_) hst.1).1 (chk_apart l [] 0 hc).2
    cases hs : sameK x p with
    | false => rfl
    | true =>
      have e := sameK_iff.1 hs
      rw [sameK_iff.2 e.symm] at h
      cases h
  have hsp : ∀ k (h : k < r.length), r = r.take k ++ r[k] :: r.drop (k + 1) := fun k h => by
    rw [← List.drop_eq_getElem_cons h, List.take_append_drop]
  have hsS : ∀ k (h : k < r.length), seats 1048576 r = seats 1048576 (r.take k) ++ Seat.mk r[k] (1048576 + 8 * tot allP (r.take k)) :: seats (nxt (1048576 + 8 * tot allP (r.take k)) r[k]) (r.drop (k + 1)) := fun k h => by
    have e := endA_eq (r.take k) 1048576 (fun x hx => hr x (List.mem_of_mem_take hx)) (by omega) (by have := htk k; omega)
    conv => lhs; rw [hsp k h]
    rw [seats_app, e]
    rfl
  have hget : ∀ k (h : k < r.length), getI (seats 1048576 r) (k : Int) = some (Seat.mk r[k] (1048576 + 8 * tot allP (r.take k))) := fun k h => by
    rw [getI_nat]
    exact at_ (hsS k h) (by rw [seats_len, List.length_take]; omega)
  have hbef : ∀ k, ∀ s ∈ seats 1048576 (r.take k), 1048576 ≤ s.Addr ∧ s.Addr + 8 * s.Piece.Size ≤ 1048576 + 8 * tot allP (r.take k) ∧ s.Piece ∈ r.take k := fun k =>
    seats_mem (r.take k) 1048576 (fun x hx => hr x (List.mem_of_mem_take hx)) (by omega) (by have := htk k; omega)
  have hfindAt : ∀ k (h : k < r.length) (q : Int), 0 ≤ q → q < r[k].Size → data_At 1000 (seats 1048576 r) (addW .u64 (1048576 + 8 * tot allP (r.take k)) (mulW .u64 8 (IntKind.wrap .u64 q))) = some (Seat.mk r[k] (1048576 + 8 * tot allP (r.take k)), q, 0) := fun k h q h0 h1 => by
    have hm := hr r[k] (List.getElem_mem h)
    obtain ⟨g1, g2⟩ := isAt_in (s := Seat.mk r[k] (1048576 + 8 * tot allP (r.take k))) hm rfl (htk0 k) (by have := htk k; omega) h0 h1
    rw [dataAt_ 1000 _ _ (by rw [seats_len]; omega) (by rw [seats_len]; omega)]
    have hf : (seats 1048576 r).find? (isAt8 (addW .u64 (1048576 + 8 * tot allP (r.take k)) (mulW .u64 8 (IntKind.wrap .u64 q)))) = some (Seat.mk r[k] (1048576 + 8 * tot allP (r.take k))) := by
      rw [List.find?_eq_some_iff_append]
      refine ⟨g1, _, _, hsS k h, fun s hs => ?_⟩
      obtain ⟨b1, b2, b3⟩ := hbef k s hs
      have hm' := hm
      unfold may at hm'
      have e : addW .u64 (1048576 + 8 * tot allP (r.take k)) (mulW .u64 8 (IntKind.wrap .u64 q)) = 1048576 + 8 * tot allP (r.take k) + 8 * q := by
        have := htk k
        have := htk0 k
        rw [wrapU (by omega) (by omega), mulU (by omega) (by omega), addU (by omega) (by omega)]
      rw [e, notAt (hr _ (List.mem_of_mem_take b3)) (by omega) (by omega) (by have := htk k; omega)]
      rfl
    rw [hf]
    dsimp only
    rw [g2]
  have hfind : ∀ k (h : k < r.length), data_Find 1000 (seats 1048576 r) r[k].Name r[k].Hart = some (Seat.mk r[k] (1048576 + 8 * tot allP (r.take k)), 0) := fun k h => by
    rw [dataFind_ 1000 _ _ _ (by rw [seats_len]; omega) (by rw [seats_len]; omega)]
    have hf : (seats 1048576 r).find? (isS r[k].Name r[k].Hart) = some (Seat.mk r[k] (1048576 + 8 * tot allP (r.take k))) := by
      rw [List.find?_eq_some_iff_append]
      refine ⟨by simp [isS], _, _, hsS k h, fun s hs => ?_⟩
      obtain ⟨_, _, b3⟩ := hbef k s hs
      have hp := hapart
      rw [hsp k h] at hp
      have := (List.pairwise_append.1 hp).2.2 s.Piece b3 r[k] List.mem_cons_self
      show (!(sameK s.Piece r[k])) = true
      rw [this]
      rfl
    rw [hf]
  -- seat by seat
  have hloop2 : ∀ (k : Nat) (h : k < r.length) (at_ : Int) (ya : Int × Int × Int) (b1 b2 : Bool) (j : Int), 0 ≤ j → j < r[k].Size →
      iter (fun s => law_DataApart_L2 1000 l a (seats 1048576 r, 0) (at_, (k : Int)) (Seat.mk r[k] (1048576 + 8 * tot allP (r.take k))) ya s) 1000 (b1, b2, ([0, subW .i64 r[k].Size 1, j] : List Int), 0) = some (.inl ((k : Int), decide ((k : Int) > 0), b1, b2, (k : Int), (k : Int))) := by
    intro k h at_ ya b1 b2 j hj0 hj1
    have hm := hr r[k] (List.getElem_mem h)
    unfold may at hm
    have step : ∀ (i : Nat) (q : Int), i < 3 → getI ([0, subW .i64 r[k].Size 1, j] : List Int) (i : Int) = some q → 0 ≤ q → q < r[k].Size →
        law_DataApart_L2 1000 l a (seats 1048576 r, 0) (at_, (k : Int)) (Seat.mk r[k] (1048576 + 8 * tot allP (r.take k))) ya (b1, b2, ([0, subW .i64 r[k].Size 1, j] : List Int), (i : Int)) = some (.inl (b1, b2, ([0, subW .i64 r[k].Size 1, j] : List Int), ((i + 1 : Nat) : Int))) := by
      intro i q hi hq h0 h1
      unfold law_DataApart_L2
      rw [if_pos (by simp; omega)]
      dsimp only
      rw [hq]
      simp only [Option.bind_some]
      rw [hget k h]
      simp only [Option.bind_some]
      rw [hfindAt k h q h0 h1]
      simp only [Option.bind_some]
      rw [if_neg (by decide), if_neg (by simp [Seat.beq_refl]), if_neg (by simp), addN1 i (by omega)]
    have e0 := step 0 0 (by omega) rfl (by omega) (by omega)
    have e1 := step 1 (subW .i64 r[k].Size 1) (by omega) rfl (by rw [subI (by omega) (by omega)]; omega) (by rw [subI (by omega) (by omega)]; omega)
    have e2 := step 2 j (by omega) rfl hj0 hj1
    have e3 : law_DataApart_L2 1000 l a (seats 1048576 r, 0) (at_, (k : Int)) (Seat.mk r[k] (1048576 + 8 * tot allP (r.take k))) ya (b1, b2, ([0, subW .i64 r[k].Size 1, j] : List Int), ((3 : Nat) : Int)) = some (.inr (.inl ((k : Int), decide ((k : Int) > 0), b1, b2, (k : Int), (k : Int)))) := by
      unfold law_DataApart_L2
      rw [if_neg (by simp)]
    rw [show (1000 : Nat) = 996 + 1 + 1 + 1 + 1 from rfl] at *
    rw [iter_succ]
    rw [show ((0 : Nat) : Int) = 0 from rfl] at e0
    rw [e0]
    simp only
    rw [iter_succ, e1]
    simp only
    rw [iter_succ, e2]
    simp only
    rw [iter_succ, e3]
  obtain ⟨t, g1, g2⟩ := iter_spec (step := fun s => law_DataApart_L1 1000 l a (seats 1048576 r, 0) s) (fun s => ∃ k : Nat, s.2 = k ∧ k ≤ r.length ∧ s.1 = 1048576 + 8 * tot allP (r.take k)) (fun s => ((r.length : Int) - s.2).toNat)
    (fun t => t = .inl (1048576 + 8 * tot allP r)) (by
    rintro ⟨at_, i⟩ ⟨k, hi, hkl, ha⟩
    dsimp only at hi ha
    subst hi
    unfold law_DataApart_L1
    rcases Nat.lt_or_ge k r.length with h | h
    · rw [if_pos (by simp [seats_len]; omega)]
      dsimp only
      rw [hget k h]
      simp only [Option.bind_some]
      have hm := hr r[k] (List.getElem_mem h)
      have hm' := hm
      unfold may at hm'
      rw [part_spec 1000 l r[k].Hart (by omega) (by omega) hck hok (by omega) (by omega)]
      simp only [Option.bind_some]
      rw [if_neg (by simp [ha]), if_neg (by decide)]
      -- its part
      have hinc' := hinc
      rw [hsp k h] at hinc'
      have hlow : tot (fun x => decide (x.Hart < r[k].Hart)) l ≤ tot allP (r.take k) := by
        rw [htr]
        have hsum := tot_append (fun x => decide (x.Hart < r[k].Hart)) (r.take k) (r.drop k)
        rw [List.take_append_drop] at hsum
        rw [hsum]
        have z : tot (fun x => decide (x.Hart < r[k].Hart)) (r.drop k) = 0 := by
          have : tot (fun x => decide (x.Hart < r[k].Hart)) (r.drop k) = tot (fun _ => false) (r.drop k) := by
            refine tot_congr fun x hx => ?_
            rw [List.drop_eq_getElem_cons h] at hx
            have hle : hk r[k] ≤ hk x := by
              rcases List.mem_cons.1 hx with rfl | hx
              · exact Int.le_refl _
              · exact (List.pairwise_cons.1 hinc'.right).1 x hx
            simp only [hk] at hle
            simp; omega
          rw [this, tot_false]
        have := tot_le (p := fun x => decide (x.Hart < r[k].Hart)) (q := allP) (l := r.take k) (fun x hx => hrp x (List.mem_of_mem_take hx)) (fun _ _ _ => rfl)
        omega
      have hsn : tot allP (r.take (k + 1)) = tot allP (r.take k) + r[k].Size := by
        rw [tot_snoc allP r k r[k] (List.getElem?_eq_getElem h)]
        rfl
      have hup : tot allP (r.take (k + 1)) ≤ tot (fun x => decide (x.Hart ≤ r[k].Hart)) l := by
        rw [htr]
        have e : tot allP (r.take (k + 1)) = tot (fun x => decide (x.Hart ≤ r[k].Hart)) (r.take (k + 1)) := by
          refine tot_congr fun x hx => ?_
          rw [List.take_add_one, List.getElem?_eq_getElem h] at hx
          have hle : hk x ≤ hk r[k] := by
            rcases List.mem_append.1 hx with hx | hx
            · exact hinc'.cross x hx _ List.mem_cons_self
            · simp at hx; subst hx; exact Int.le_refl _
          simp only [hk] at hle
          simp [allP]; omega
        rw [e]
        exact tot_take_le hrp (k + 1)
      have k0 := htk0 k
      have k1 := htk (k + 1)
      have hend : addW .u64 (1048576 + 8 * tot allP (r.take k)) (mulW .u64 8 (IntKind.wrap .u64 r[k].Size)) = 1048576 + 8 * tot allP (r.take (k + 1)) := by
        rw [wrapU (by omega) (by omega), mulU (by omega) (by omega), addU (by omega) (by omega)]
        omega
      rw [if_neg (by simp; omega), hend, if_neg (by simp; omega)]
      obtain ⟨j, hj, hj0, hj1⟩ := pick_spec 1000 a r[k].Size (by omega) (by omega)
      rw [hj]
      have fin : ∀ x : Option ((Int × Int) ⊕ (Int ⊕ Unit)), x = some (.inl (1048576 + 8 * tot allP (r.take (k + 1)), ((k + 1 : Nat) : Int))) → (∃ s', x = some (.inl s') ∧ (∃ k : Nat, s'.2 = k ∧ k ≤ r.length ∧ s'.1 = 1048576 + 8 * tot allP (r.take k)) ∧ ((r.length : Int) - s'.2).toNat < ((r.length : Int) - (k : Int)).toNat) ∨ ∃ t, x = some (.inr t) ∧ t = .inl (1048576 + 8 * tot allP r) :=
        fun x hx => .inl ⟨_, hx, ⟨k + 1, rfl, h, rfl⟩, by dsimp only; omega⟩
      refine fin _ ?_
      by_cases hk0 : k = 0
      · subst hk0
        rw [if_neg (by simp)]
        simp only [Option.bind_some]
        rw [hloop2 0 h _ _ _ _ j hj0 hj1]
        simp only [Option.bind_some]
        rw [hget 0 h]
        simp only [Option.bind_some]
        rw [hfind 0 h]
        simp only [Option.bind_some]
        rw [if_neg (by decide), if_neg (by simp [Seat.beq_refl]), addN1 0 (by omega)]
      · rw [if_pos (by simp; omega), subN1 k (by omega) (by omega), hget (k - 1) (by omega)]
        simp only [Option.bind_some]
        have hle : r[k - 1].Hart ≤ r[k].Hart := hinc.mono (by omega) h
        rw [if_neg (by simp; omega)]
        rw [hloop2 k h _ _ _ _ j hj0 hj1]
        simp only [Option.bind_some]
        rw [hget k h]
        simp only [Option.bind_some]
        rw [hfind k h]
        simp only [Option.bind_some]
        rw [if_neg (by decide), if_neg (by simp [Seat.beq_refl]), addN1 k (by omega)]
    · rw [if_neg (by simp [seats_len]; omega)]
      refine .inr ⟨_, rfl, ?_⟩
      have : k = r.length := by omega
      subst this
      rw [List.take_length] at ha
      rw [ha]) 1000 (1048576, 0) ⟨0, rfl, by omega, by simp [tot]⟩ (by simp; omega)
  rw [g1, g2]
  simp only [Option.bind_some]
  have hnone : (seats 1048576 r).find? (isAt8 (1048576 + 8 * tot allP r)) = none := by
    rw [List.find?_eq_none]
    intro s hs
    have hb := hbef r.length s (by rw [List.take_length]; exact hs)
    rw [List.take_length] at hb
    rw [notAt (hr _ hb.2.2) (by omega) hb.2.1 (by omega)]
    exact Bool.false_ne_true
  rw [dataAt_ 1000 _ _ (by rw [seats_len]; omega) (by rw [seats_len]; omega), hnone]
  simp only [Option.bind_some]
  rw [if_pos (by decide), size_spec 1000 l (by omega) (by omega) hck hok]
  simp only [Option.bind_some]
  have e := htr allP
  have t0 : 0 ≤ tot allP r := tot_nonneg hrp
  rw [show tot (fun _ => true) l = tot allP r from e, wrapU (by omega) (by omega), mulU (by omega) (by omega), addU (by omega) (by omega)]
  simp
end Go.Proofs.Ytnjpjmeoednfcaa
