/- Copies of a candidate. Plain lists, no program in sight. -/
import Derived.Test.YtigcbjbaibcgfaaGreatV2
namespace Go.Proofs.YtigcbjbaibcgfaaGreat
open Go A

theorem ownEvents_ (n:Nat) (l:List Event) (h:smalls l) (hn:200≤n):kit_OwnEvents n l=some l:=by
 have hl:=h.1
 have key:T (kit_OwnEvents n l) (fun r=>r=l):=by
  unfold kit_OwnEvents
  refine T.bind (P:=fun r=>r=l) ?_ (fun r hr=>T.ret hr)
  refine T.loop l.length (fun i s=>s=(l.take i,(i:Int))) _ ?_ rfl (by omega)
  rintro i s hi rfl
  unfold kit_OwnEvents_L1
  refine T.ite (fun cd=>?_) (fun cd=>T.fin (List.take_of_length_le (ge_of cd)))
  have hil:=lt_of cd
  refine T.get i rfl hil ?_
  refine T.eqb (ownEvent_ n _ (h.2 _ (List.getElem_mem hil))) ?_
  refine T.grd (ble_of (by simp only [List.length_take]; omega)) ?_
  refine T.ret ⟨hil,?_⟩
  dsimp only
  rw [addN1 _ (by omega),List.take_succ_eq_append_getElem hil]
 obtain ⟨r,h1,h2⟩:=key
 rw [h1,h2]
theorem ownCand_ (n:Nat) (c:Cand) (hc:Light c) (hn:200≤n):kit_OwnCand n c=some c:=by
 have hh:=hc.harts
 have hfi:=hc.first
 have hfr:=hc.from_
 have hor:=hc.order
 have key:T (kit_OwnCand n c) (fun r=>r=c):=by
  unfold kit_OwnCand
  refine T.eqb (a:=c.First) (by unfold kit_Own_Cell; rw [grd_pos (ble_of (by omega))]) ?_
  refine T.eqb (ownInt_ n _ (by omega)) ?_
  refine T.eqb (ownInt_ n _ (by omega)) ?_
  refine T.bind (P:=fun r=>r=c.Harts) ?_ (fun r hr=>T.ret (by rw [hr]))
  refine T.loop c.Harts.length (fun i s=>s=(c.Harts.take i,(i:Int))) _ ?_ rfl (by omega)
  rintro i s hi rfl
  unfold kit_OwnCand_L1
  refine T.ite (fun cd=>?_) (fun cd=>T.fin (List.take_of_length_le (ge_of cd)))
  have hil:=lt_of cd
  refine T.get i rfl hil ?_
  refine T.eqb (ownEvents_ n _ (hc.rows _ (List.getElem_mem hil)) hn) ?_
  refine T.grd (ble_of (by simp only [List.length_take]; omega)) ?_
  refine T.ret ⟨hil,?_⟩
  dsimp only
  rw [addN1 _ (by omega),List.take_succ_eq_append_getElem hil]
 obtain ⟨r,h1,h2⟩:=key
 rw [h1,h2]

end Go.Proofs.YtigcbjbaibcgfaaGreat
