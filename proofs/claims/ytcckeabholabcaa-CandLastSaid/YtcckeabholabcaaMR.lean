/- Loops over the entries of a map, in whatever order these come: steps; and a loop that asks whether all are zero. -/
import Derived.Test.YtcckeabholabcaaKT
import Derived.Maps.RangeRun
namespace Go.Proofs.Ytcckeabholabcaa
namespace A
open Go
open Go.ChangeMaps (setBlock)

theorem CR {F:Fence} {n:Nat} {P:Program} {ops:Array Oper} {rest:List Oper} {o:Oper} {a:Act} {w w':World} {Q:Exit→Act→World→Prop} {v:Value} (hg:o.guard=none) (hd:∀ c,o.op≠.defer c)
    (hab:o.about P w a.eval=none) (hrun:(execOp a.eval o).run P w=.ok (.value v) w') (h:wpListIn F n P ops Q rest (a.put o.dst v) w'):wpListIn F n P ops Q (o::rest) a w :=
  wpListIn_plain hg fun K hK=>by
    refine ⟨fun f hf=>(by rw [hab] at hf; cases hf),?_⟩
    rw [Oper.semAt_eq _ _ _ hd,hrun]
    exact hK _ _ h
theorem gr (a:Act) (d:Option Tmp) (v:Value):(a.put d v).tmps.size=a.tmps.size:=by
  cases d <;> simp [Act.put]
theorem iq {a:Act} {i:Nat} {v:Value} (h:i<a.tmps.size):(a.put (some i) v).eval (.tmp i)=v:=by
  simp [Act.put,Act.eval,Array.getD,h]
theorem uJ {a:Act} {i j:Nat} {v:Value} (h:i≠j):(a.put (some i) v).eval (.tmp j)=a.eval (.tmp j):=by
  simp only [Act.put,Act.eval,Array.getD_eq_getD_getElem?,Array.getElem?_setIfInBounds,if_neg h]
theorem TR.bad {E:Env} {t:List AV} {a:Act} (h:TR E t a) (i:Nat):TR E (t.set i .bad) a:=by
  refine ⟨by rw [List.length_set]; exact h.len,fun n c u h1 h2=>?_,h.df,h.gt⟩
  rw [List.getElem?_set] at h1
  split at h1
  · split at h1
    · cases h1
      exact .bad _ _
    · cases h1
  · exact h.val n c u h1 h2
theorem TR.bads {E:Env} {a:Act}:∀ (is:List Nat) {t:List AV},TR E t a→TR E (is.foldl (fun t i=>t.set i .bad) t) a
  | [],_,h=>h
  | i::is,_,h=>TR.bads is (h.bad i)
theorem TR.putb {E:Env} {t:List AV} {a:Act} (h:TR E t a) {i:Nat} (hb:t[i]?=some .bad) (v:Value):TR E t (a.put (some i) v):=by
  refine ⟨by rw [gr]; exact h.len,fun n c u h1 h2=>?_,h.df,h.gt⟩
  by_cases e:i=n
  · subst e
    rw [hb] at h1
    cases h1
    exact .bad _ _
  · refine h.val n c u h1 ?_
    simp only [Act.put,Array.getElem?_setIfInBounds,if_neg e] at h2
    exact h2
theorem TR.putv {E:Env} {t:List AV} {a:Act} (h:TR E t a) {i:Nat} {c:AV} {v:Value} (hv:VR E c v):TR E (t.set i c) (a.put (some i) v):=by
  refine ⟨by rw [gr,List.length_set]; exact h.len,fun n c' u h1 h2=>?_,h.df,h.gt⟩
  rw [List.getElem?_set] at h1
  simp only [Act.put,Array.getElem?_setIfInBounds] at h2
  split at h1
  · rename_i e
    subst e
    split at h1
    · cases h1
      rw [if_pos rfl] at h2
      split at h2
      · cases h2
        exact hv
      · cases h2
    · cases h1
  · rename_i e
    rw [if_neg e] at h2
    exact h.val n c' u h1 h2

/-- An iterator over a map that is known. -/
structure Ih (G:Gh) (E:Env) (w:World) (b r:Nat) (ms:Array MapEntry) (clock:Nat) (seen:Array Nat):Prop where
  map:w.heap[b]?=some (.map ms clock)
  it:∃ c0,w.heap[r]?=some (.mapIter (some b) clock seen c0)∧clock≤c0
  nF:¬ E.F r
  nmu:∀ k o s n,E.mu k≠some (.blk r o s n)
  new:G.w0.heap.size≤r
  ne:r≠b
  born:∀ x∈ms.toList,x.born<clock
  uniq:(ms.toList.map (·.born)).Nodup

theorem Fo {G:Gh} {E:Env} {S:St} {w:World} (hM:ah G pn E S w) {id:Nat} {fl:Bool} {es:List (AV×AV)} (ho:S.o[id]?=some (.mapo fl es)) {u:Value} (hv:VR E (.mp id) u) :
    ∃ b o s n ms clock,u=.map (some b)∧E.mu (.O id)=some (.blk b o s n)∧w.heap[b]?=some (.map ms clock)∧(es.length=ms.size∧nX ms clock) ∧
      ∀ (i:Nat) (e:AV×AV) (m:MapEntry),es[i]?=some e→ms[i]?=some m→rL e.1=some m.key∧VR (cC E fl) e.2 m.val:=by
  cases hv with
  | mp hmu =>
    have:=hM.obj id
    rw [ho,hmu] at this
    obtain ⟨ms,clock,h1,h2⟩:=this
    rw [hM.hp] at h1
    exact ⟨_,_,_,_,ms,clock,rfl,hmu,h1,h2⟩

/-- 'range' over it. -/
theorem Em {G:Gh} {E:Env} {S:St} {w:World} (hM:ah G pn E S w) {P:Program} {t k e:TypeId} (ht:P.underlying t=some (.map k e)) {b clock:Nat} {ms:Array MapEntry}
    (hb:w.heap[b]?=some (.map ms clock)) (hB:nX ms clock) :
    ∃ w',(Instr.range t (.map (some b))).run P w=.ok (.pointer (some ⟨w.heap.size,0,none⟩)) w'∧LE E ⟨E.F,E.mu,w'.heap⟩∧ah G pn ⟨E.F,E.mu,w'.heap⟩ S w'∧Ih G ⟨E.F,E.mu,w'.heap⟩ w' b w.heap.size ms clock #[]:=by
  have hbl:b<w.heap.size:=(Array.getElem?_eq_some_iff.1 hb).1
  have hfr:¬ E.F w.heap.size:=fun h=>absurd (hM.Flt _ h) (by omega)
  have hnm:∀ k o s n,E.mu k≠some (.blk w.heap.size o s n):=fun k o s n h=>absurd (hM.own _ _ _ _ _ h).2.1 (by omega)
  obtain ⟨h1,h2⟩:=hM.freestep (w':=w.alloc (.mapIter (some b) clock #[] clock)) (b:=w.heap.size) rfl rfl rfl (by simp) (fun b' hb' _=>(MapKept.heap_alloc w _).2 b' hb') (fun h=>by omega) ⟨hfr,hnm,.inr hM.size⟩
  exact ⟨_,run_range_map w t k e b ms clock ht hb,h1,h2,⟨((MapKept.heap_alloc w _).2 b hbl).trans hb,⟨clock,(MapKept.heap_alloc w _).1,Nat.le_refl _⟩,hfr,hnm,hM.size,by omega,hB.1,hB.2⟩⟩

/-- 'next'. -/
theorem Fp {G:Gh} {E:Env} {S:St} {w:World} (hM:ah G pn E S w) {P:Program} {b r clock:Nat} {ms:Array MapEntry} {seen:Array Nat} (h:Ih G E w b r ms clock seen) (ty:TypeId) :
    ((leftOf ms seen).size=0∧(Instr.next (.pointer (some ⟨r,0,none⟩)) false ty).run P w=.ok (.tuple #[.bool false]) w) ∨
    ∃ e∈(leftOf ms seen).toList,∃ w',(Instr.next (.pointer (some ⟨r,0,none⟩)) false ty).run P w=.ok (.tuple #[.bool true,e.key,e.val]) w'∧LE E ⟨E.F,E.mu,w'.heap⟩∧ah G pn ⟨E.F,E.mu,w'.heap⟩ S w'∧Ih G ⟨E.F,E.mu,w'.heap⟩ w' b r ms clock (seen.push e.born) ∧
      (Instr.entry (.pointer (some ⟨r,0,none⟩))).run P w'=.ok (.tuple #[e.key,e.val]) w':=by
  obtain ⟨c0,hr,hc⟩:=h.it
  rcases run_next_at (P:=P) w ty r b clock c0 seen ms clock hr h.map h.born hc with ⟨h0,hrun⟩ | ⟨e,he,w1,hal,hrun⟩
  · exact .inl ⟨h0,hrun⟩
  · refine .inr ⟨e,he,_,hrun,?_⟩
    have hem:e∈ms.toList:=by
      unfold leftOf at he
      rw [Array.toList_filter,List.mem_filter] at he
      exact he.1
    have hr1:w1.heap[r]?=some (.mapIter (some b) clock seen c0):=by rcases hal with rfl | rfl <;> exact hr
    have hb1:w1.heap[b]?=some (.map ms clock):=by rcases hal with rfl | rfl <;> exact h.map
    have hrl:r<w1.heap.size:=(Array.getElem?_eq_some_iff.1 hr1).1
    have hs1:(setBlock w1 r (.mapIter (some b) clock (seen.push e.born) clock)).heap[r]?=some (.mapIter (some b) clock (seen.push e.born) clock):=by simp [setBlock,hrl]
    have hs2:∀ b',b'≠r→(setBlock w1 r (.mapIter (some b) clock (seen.push e.born) clock)).heap[b']?=w1.heap[b']?:=fun b' hb'=>by
      simp only [setBlock]
      rw [Array.getElem?_setIfInBounds_ne (fun e=>hb' e.symm)]
    have heq:w1.heap=w.heap:=by rcases hal with rfl | rfl <;> rfl
    obtain ⟨g1,g2⟩:=hM.freestep (w':=setBlock w1 r (.mapIter (some b) clock (seen.push e.born) clock)) (b:=r) (by rcases hal with rfl | rfl <;> rfl) (by rcases hal with rfl | rfl <;> rfl) (by rcases hal with rfl | rfl <;> rfl) (by simp [setBlock,heq])
      (fun b' _ hne=>by rw [hs2 b' hne,heq]) (fun _=>by unfold bc; rw [hs1,hr]) ⟨h.nF,h.nmu,.inr h.new⟩
    have hbb:(setBlock w1 r (.mapIter (some b) clock (seen.push e.born) clock)).heap[b]?=some (.map ms clock):=(hs2 b (fun e=>h.ne e.symm)).trans hb1
    exact ⟨g1,g2,⟨hbb,⟨clock,hs1,Nat.le_refl _⟩,h.nF,h.nmu,h.new,h.ne,h.born,h.uniq⟩,run_entry_at _ r b clock seen ms clock e hs1 hbb hem h.uniq⟩
end A
end Go.Proofs.Ytcckeabholabcaa
