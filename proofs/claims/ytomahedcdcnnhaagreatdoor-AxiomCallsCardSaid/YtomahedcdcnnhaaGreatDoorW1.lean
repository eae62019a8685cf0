/- How a judgement is told: a walk over the library's contract of strconv.AppendInt. -/
import Derived.Test.YtomahedcdcnnhaaGreatDoorSh
import Derived.Lib.AppendIntMem
import Derived.Lib.ItoaLen
import Derived.Lib.Slices
import Derived.Lib.Hide
import Derived.Laws.IdiomStrings
import Derived.OwnWalk
import Derived.WalkKit
import Derived.BigCall
import Derived.BigRegion
import Derived.Deep.RegionHeld3
import Derived.Deep.AppendLies
import Derived.Deep.RegionLawGrows
import Derived.KernelRfl
import Derived.Lib.AppendStr
import Derived.Laws.MakeOwn
import Derived.Test.YtomahedcdcnnhaaGreatDoorK6
import Derived.Test.YtomahedcdcnnhaaGreatDoorM1
namespace Go.Proofs
open Go.Shelf Go.RowKit
def Dz (why:Int):List UInt8:=if why=1 then [102,111,114,109] else if why=2 then [111,114,100,101,114] else if why=3 then [118,97,108,117,101] else if why=4 then [112,97,105,114] else [111,116,104,101,114]
def AH (ok:Bool) (why a b:Int):List UInt8:=if ok=true then [111,107] else Dz why++32::(Lib.itoa a++32::Lib.itoa b)
theorem Tryz.pairInfoByte:(Tryz.prog.info? 5).map (fun i=>(i.zero,i.size,i.bytes))=some (some (.int .u8 0),1,1):=by kernel_rfl
section
variable {P:Program} (w:World)
theorem AI {ops:Array Oper} {o:Oper} {a:Act} {K:Act→World→Prop} {Q:Exit→Act→World→Prop} {E:Prop} (hgd:o.guard=none) (sl x:Operand) (t u:TypeId)
    (ho:o.op=.call { callee:=.builtin .append,args:=#[sl,x],argTypes:=#[t,u] })
    (base:Nat) (e:TypeId) (i:TypeInfo) (ht:P.underlying t=some (.slice e)) (hu:P.underlying u=some .string) (hi:P.info? e=some i) (hz:i.zero=some (.int .u8 0))
    (hsize:i.size=1) (hby:i.bytes=1)
    (v:Value) (n:Nat) (xs:List Value) (hs:a.eval sl=v) (hown:w.ownsRow base e 1 v n xs) (s:ByteArray) (hx:a.eval x=.string s)
    (h63:n + s.size≤maxLen) (hbytes:n + s.size≤140737488355328) (hbase:base≤w.heap.size)
    (h:∀ v' w',w'.ownsRow base e 1 v' (n + s.size) (xs++Lib.strCells s)→w.grownBy w' v.ownBlock→K (a.put o.dst v') w') :
    if Region.wanted o (yielded ops a.tmps)=true then Oper.wp P o a w K Q else E:=by
  have hw:Region.wanted o (yielded ops a.tmps)=true:=by simp [Region.wanted,hgd]
  rw [if_pos hw]
  obtain ⟨v',w',hr,h2,h3,_⟩:=Lib.run_append_own_string (P:=P) w base t u o.type e i ht hu hi hz hsize hby v n xs hown s h63 hbytes hbase
  unfold Oper.wp execOp
  simp only [ho,resolve,invoke,builtin,Sem.run_bind,Sem.run_pure,Result.andThen_ok,List.map_toArray,List.map_cons,List.map_nil,hs,hx,hr]
  exact h v' w' h2 h3
end
def Tryz.row50:Array Value:=madeCells (Value.int .u8 0).cells 50
theorem Tryz.mk50 (w:World):(Instr.makeSlice 81 (.int .i64 0) (.int .i64 50)).run Tryz.prog w=.ok (.slice (some ⟨w.heap.size,0,none⟩) 0 50) (w.alloc (.cells Tryz.row50 5)):=by
  obtain ⟨i0,hi,hz0,hz1,hz2⟩:=info_parts Tryz.pairInfoByte
  have:=run_makeSlice (P:=Tryz.prog) w 81 5 i0 _ Tryz.underlying81 hi hz0 .i64 .i64 0 50 (by decide) (by decide) (by rw [hz1]; decide) (by rw [hz2]; decide) (by decide)
  rw [hz1] at this
  exact this
theorem Tryz.row50_size:Tryz.row50.size=50:=by decide +kernel
theorem Tryz.own50 {base:Nat} {W:World} {H:Nat} (hH:W.heap.size=H) (hb:base≤H):(W.alloc (.cells Tryz.row50 5)).ownsRow base 5 1 (.slice (some ⟨H,0,none⟩) 0 50) 0 []:=by
  subst hH
  exact World.ownsRow_made W Tryz.row50 50 hb (by decide) Tryz.row50_size
attribute [local go_sem ↓] Tryz.mk50
noncomputable def Tryz.lineTail:Code:=match Tryz.f25.body with | some (.seq _ (.seq _ (.seq _ (.seq _ (.seq _ t)))))=>t | _=>.ret
set_option maxHeartbeats 6400000 in
set_option maxRecDepth 100000 in
theorem Tryz.line_tail (w w2 : World) (a b : Int) (a0 : -9223372036854775808 ≤ a) (a1 : a ≤ 9223372036854775807) (b0 : -9223372036854775808 ≤ b) (b1 : b ≤ 9223372036854775807) (hT : Lib.TabBelow Tryz.prog w.heap.size w "internal/strconv.uint64pow10" .u64 Lib.pow10Tab)
    (l:List UInt8) (hl:l.length≤10) (v2:Value) (c2:w2.cell? ⟨w.heap.size,2,none⟩=some (.int .i64 a)) (c3:w2.cell? ⟨w.heap.size,3,none⟩=some (.int .i64 b))
    (hown2:w2.ownsRow (w.heap.size + 1 + 1) 5 1 v2 l.length (Lib.byteCells l)) (hb2:Below w.heap.size w w2) (hs2:w.heap.size + 1 + 1≤w2.heap.size) (x0 x2 x3 x5 x6 x7 x8 x9 x10 x11 x12 x13 x14 x15 x16 x17 x18 x19 x20 x21 x22 x23 x24 x25 x26 x27 x28 x29 x30 x31 x32 x33 x34 x35 x36:Value) :
    Code.wp Tryz.prog Tryz.lineTail (bodyPost Tryz.prog Tryz.f25 fun e w'=>e=.returned (.string ⟨(l++32::(Lib.itoa a++32::Lib.itoa b)).toArray⟩)∧Below w.heap.size w w') ⟨#[x0,.pointer (some ⟨w.heap.size,0,none⟩),x2,x3,v2,x5,x6,x7,x8,x9,x10,x11,x12,x13,x14,x15,x16,x17,x18,x19,x20,x21,x22,x23,x24,x25,x26,x27,x28,x29,x30,x31,x32,x33,x34,x35,x36],[]⟩ w2:=by
  obtain ⟨i0,hi,hz0,hz1,hz2⟩:=info_parts Tryz.pairInfoByte
  have la:=Lib.itoa_length_le a a0 a1
  have lb:=Lib.itoa_length_le b b0 b1
  have hT2 : Lib.TabBelow Tryz.prog (w.heap.size + 1 + 1) w2 "internal/strconv.uint64pow10" .u64 Lib.pow10Tab := fun w' h => hT w' (hb2.trans (h.mono (by omega)))
  delta Tryz.lineTail Tryz.f25
  dsimp only
  go_wp2
  go_region_held3 (fun w'=>w'.cell? ⟨w.heap.size,2,none⟩=some (.int .i64 a)∧w'.cell? ⟨w.heap.size,3,none⟩=some (.int .i64 b))
    (first
      | go_keep
      | (go_split_ands; refine ⟨?_,?_⟩ <;> (rw [hgrow3.cell_far _ (by simp; omega) (fun h=>by have:=(hown2.lt _ h.symm).1; simp at this; omega)]; assumption))
      | (go_split_ands; refine ⟨?_,?_⟩ <;> (rw [hnx4.cell (by simp; omega)]; assumption)))
    (first
      | (refine step_append_lies _ (by rfl) _ _ 81 (by rfl) (w.heap.size + 1 + 1) 5 i0 _ 1 1 Tryz.underlying81 hi hz0 hz1 hz2 rfl (by decide) v2 _ _ (by rfl) ((hown2.alloc _).drew) ⟨w2.heap.size,0,none⟩ 1 1 [Value.int .u8 32] (by rfl) (by rfl) (World.news_of_block (cs:=#[.int .u8 32]) (t:=5) (fr:=(0,0)) (heap_alloc_new w2 _)) (by simp [Value.oneCell']) (by decide) (by unfold maxLen; omega) (by omega) (by simp; omega) (w2.heap.size + 1) (by simp) ?_; intro g3 cap3 w3 hown3 hgrow3 hat3 hlt3)
      | (go_at_call 48; refine (Tryz.strconv_AppendInt_10 (w.heap.size + 1 + 1) _ a a0 a1 _ _ _ hown3 (by have:=hgrow3.size; simp at this; omega) (by omega) (hT2.on ((((Below.refl _ w2).alloc (by omega) _).drew).grown hgrow3 (by simp; omega) (fun k hk=>(hown2.lt k hk).1)))).mono ?_; rintro e w4 ⟨v4,rfl,hown4,hnx4,hok4⟩))
  have hb3:Below (w.heap.size + 1 + 1) w2 w3:=(((Below.refl _ w2).alloc (by omega) _).drew).grown hgrow3 (by simp; omega) (fun k hk=>(hown2.lt k hk).1)
  have hb4:Below w.heap.size w w4:=hb2.trans ((hb3.trans hnx4).mono (by omega))
  have hs4:w.heap.size + 1 + 1≤w4.heap.size:=by have:=(hb3.trans hnx4).size; omega
  have c4:w4.cell? ⟨w.heap.size,3,none⟩=some (.int .i64 b):=by rw [(hb3.trans hnx4).cell (by simp; omega)]; exact c3
  have hT4:=hT2.on (hb3.trans hnx4)
  go_wp2
  go_region_held3 (fun w'=>w'.cell? ⟨w.heap.size,3,none⟩=some (.int .i64 b))
    (first
      | go_keep
      | (rw [hgrow5.cell_far _ (by simp; omega) (fun h=>by have:=(hown4.lt _ h.symm).1; simp at this; omega)]; assumption)
      | (rw [hnx6.cell (by simp; omega)]; assumption))
    (first
      | (refine step_append_lies _ (by rfl) _ _ 81 (by rfl) (w.heap.size + 1 + 1) 5 i0 _ 1 1 Tryz.underlying81 hi hz0 hz1 hz2 rfl (by decide) v4 _ _ (by rfl) ((hown4.alloc _).drew) ⟨w4.heap.size,0,none⟩ 1 1 [Value.int .u8 32] (by rfl) (by rfl) (World.news_of_block (cs:=#[.int .u8 32]) (t:=5) (fr:=(0,0)) (heap_alloc_new w4 _)) (by simp [Value.oneCell']) (by decide) (by unfold maxLen; omega) (by omega) (by simp; omega) (w4.heap.size + 1) (by simp) ?_; intro g5 cap5 w5 hown5 hgrow5 hat5 hlt5)
      | (go_at_call 48; refine (Tryz.strconv_AppendInt_10 (w.heap.size + 1 + 1) _ b b0 b1 _ _ _ hown5 (by have:=hgrow5.size; simp at this; omega) (by omega) (hT4.on ((((Below.refl _ w4).alloc (by omega) _).drew).grown hgrow5 (by simp; omega) (fun k hk=>(hown4.lt k hk).1)))).mono ?_; rintro e w6 ⟨v6,rfl,hown6,hnx6,hok6⟩))
  have hb5:Below (w.heap.size + 1 + 1) w4 w5:=(((Below.refl _ w4).alloc (by omega) _).drew).grown hgrow5 (by simp; omega) (fun k hk=>(hown4.lt k hk).1)
  have hb6:Below w.heap.size w w6:=hb4.trans ((hb5.trans hnx6).mono (by omega))
  have eL:Lib.byteCells l++[Value.int .u8 32]++Lib.byteCells (Lib.itoa a)++[Value.int .u8 32]++Lib.byteCells (Lib.itoa b)=Lib.byteCells (l++32::(Lib.itoa a++32::Lib.itoa b)):=by simp [Lib.byteCells]
  have eN:l.length + 1 + (Lib.itoa a).length + 1 + (Lib.itoa b).length=(l++32::(Lib.itoa a++32::Lib.itoa b)).length:=by simp; omega
  rw [eL,eN] at hown6
  have hpos:0<(l++32::(Lib.itoa a++32::Lib.itoa b)).length:=by rw [List.length_append,List.length_cons]; omega
  obtain ⟨m,hm⟩:∃ m,m=l++32::(Lib.itoa a++32::Lib.itoa b):=⟨_,rfl⟩
  rw [← hm] at hown6 hpos
  have HM:=Lib.hid hm
  clear hm
  rcases hown6.2 with ⟨-,h0⟩ | ⟨g,cap,cur,rfl,-,-,-,-,-,-⟩
  · omega
  · have hcv:=run_convert_bytes_back (P:=Tryz.prog) w6 81 9 5 ⟨g,0,none⟩ cap m Tryz.underlying81 Tryz.underlying5 Tryz.underlying9 (fun j hj=>hown6.cells (g:=g) rfl j _ (by simp [Lib.byteCells,hj]))
    go_wp2
    go_ret
    have hm:=HM.out
    subst hm
    exact ⟨rfl,hb6⟩
theorem Tryz.line_mid (w w2:World) (ok:Bool) (k a b:Int) (cs:Array Value) (v:Value) (hv:v=.slice (some ⟨w.heap.size + 1 + 1,0,none⟩) 0 50)
    (hgrow2:((((w.alloc (.cells #[.bool ok,.int .i64 k,.int .i64 a,.int .i64 b] 48)).alloc (.cells cs 80)).alloc (.cells Tryz.row50 5)).drew).grownBy w2 v.ownBlock) :
    Below w.heap.size w w2∧w.heap.size + 1 + 1≤w2.heap.size∧w2.cell? ⟨w.heap.size,2,none⟩=some (.int .i64 a)∧w2.cell? ⟨w.heap.size,3,none⟩=some (.int .i64 b):=by
  subst hv
  have o2:w2.heap[w.heap.size]?=some (.cells #[.bool ok,.int .i64 k,.int .i64 a,.int .i64 b] 48):=by
    rw [hgrow2.block _ (by simp; omega) (fun h=>by have h:w.heap.size=w.heap.size + 1 + 1:=Option.some.inj h; omega)]
    show (((w.alloc _).alloc _).alloc _).heap[w.heap.size]?=_
    rw [heap_alloc_old _ _ (by simp; omega),heap_alloc_old _ _ (by simp),heap_alloc_new]
  refine ⟨(((((Below.refl w.heap.size w).alloc (by simp) _).alloc (by simp) _).alloc (by simp; omega) _).drew).grown hgrow2 (by simp; omega) (fun k hk=>by have hk:some (w.heap.size + 1 + 1)=some k:=hk; have:=Option.some.inj hk; omega),by have:=hgrow2.size; simp at this; omega,?_,?_⟩
  · rw [cell_of_row w2 _ _ _ _ _ o2]; rfl
  · rw [cell_of_row w2 _ _ _ _ _ o2]; rfl
def Tryz.wd:Nat→List UInt8
| 1=>[102,111,114,109]
| 2=>[111,114,100,101,114]
| 3=>[118,97,108,117,101]
| 4=>[112,97,105,114]
| _=>[111,116,104,101,114]
def Tryz.words:Array Value:=#[.string ⟨#[111,116,104,101,114]⟩,.string ⟨#[102,111,114,109]⟩,.string ⟨#[111,114,100,101,114]⟩,.string ⟨#[118,97,108,117,101]⟩,.string ⟨#[112,97,105,114]⟩]
theorem Tryz.wd_cell (w:World) (A:Obj):∀ k,k<5→(((w.alloc A).alloc (.cells Tryz.words 80)).drew).cell? ⟨w.heap.size + 1,k,none⟩=some (.string ⟨(Tryz.wd k).toArray⟩):=by
  intro k hk
  have h:(((w.alloc A).alloc (.cells Tryz.words 80)).drew).heap[w.heap.size + 1]?=some (.cells Tryz.words 80):=by
    show ((w.alloc A).alloc (.cells Tryz.words 80)).heap[w.heap.size + 1]?=_
    rw [show w.heap.size + 1=(w.alloc A).heap.size by simp]
    exact heap_alloc_new _ _
  rw [cell_of_row _ _ _ _ _ _ h]
  match k,hk with
  | 0,_=>rfl
  | 1,_=>rfl
  | 2,_=>rfl
  | 3,_=>rfl
  | 4,_=>rfl
theorem Tryz.wd_cell2 (w:World) (A B:Obj) (k:Nat) (hk:k<5):((((w.alloc A).alloc (.cells Tryz.words 80)).alloc B).drew).cell? ⟨w.heap.size + 1,k,none⟩=some (.string ⟨(Tryz.wd k).toArray⟩):=by
  have h:((((w.alloc A).alloc (.cells Tryz.words 80)).alloc B).drew).heap[w.heap.size + 1]?=((w.alloc A).alloc (.cells Tryz.words 80)).drew.heap[w.heap.size + 1]?:=heap_alloc_old _ _ (by simp)
  rw [World.cell?_of_block h]
  exact Tryz.wd_cell w A k hk
set_option maxHeartbeats 6400000 in
set_option maxRecDepth 100000 in
theorem Tryz.line (ok:Bool) (why a b:Int) (a0:-9223372036854775808≤a) (a1:a≤9223372036854775807) (b0:-9223372036854775808≤b) (b1:b≤9223372036854775807) (w:World)
    (htab : Lib.TabIs Tryz.prog w "internal/strconv.uint64pow10" .u64 Lib.pow10Tab) :
    Calls Tryz.prog 25 #[.agg #[.bool ok,.int .i64 why,.int .i64 a,.int .i64 b]] w fun e w'=>e=.returned (.string ⟨(AH ok why a b).toArray⟩)∧Below w.heap.size w w':=by
  obtain ⟨i0,hi,hz0,hz1,hz2⟩:=info_parts Tryz.pairInfoByte
  have hT:=Lib.tabBelow_of_tabIs htab
  cases ok with
  | true =>
    go_enter Tryz.func25,Tryz.ntmps25
    go_wp2
    go_ret
    exact ⟨rfl,(Below.refl _ w).alloc (Nat.le_refl _) _⟩
  | false =>
    by_cases hr:0≤why∧why<5
    · obtain ⟨k,rfl⟩:∃ k:Nat,why=(k:Int):=⟨why.toNat,by omega⟩
      have hk:k<5:=by omega
      have hk0:(0:Int)≤(k:Int):=by omega
      have hk5:(k:Int)<5:=by omega
      have e:AH false (k:Int) a b=Tryz.wd k++32::(Lib.itoa a++32::Lib.itoa b):=by
        match k,hk with
        | 0,_=>rfl
        | 1,_=>rfl
        | 2,_=>rfl
        | 3,_=>rfl
        | 4,_=>rfl
      have hl:(Tryz.wd k).length≤5:=by
        match k,hk with
        | 0,_=>decide
        | 1,_=>decide
        | 2,_=>decide
        | 3,_=>decide
        | 4,_=>decide
      rw [e]
      have hc:=fun A=>Tryz.wd_cell w A k hk
      have hd:=fun A B=>Tryz.wd_cell2 w A B k hk
      unfold Tryz.words at hc hd
      go_enter Tryz.func25,Tryz.ntmps25
      go_wp2
      go_region_held3 (fun w'=>w'.cell? ⟨w.heap.size,1,none⟩=some (.int .i64 (k:Int))∧w'.cell? ⟨w.heap.size + 1,k,none⟩=some (.string ⟨(Tryz.wd k).toArray⟩))
        (first
          | go_keep
          | (go_split_ands; refine ⟨by go_simp,hc _⟩)
          | (go_split_ands; refine ⟨by go_simp,hd _ _⟩)
          | (go_split_ands; refine ⟨?_,?_⟩ <;> (rw [hgrow2.cell_far _ (by simp <;> omega) (fun h=>by have h:(_:Nat)=w.heap.size + 1 + 1:=Option.some.inj h; dsimp only at h; omega)]; assumption)))
        (first
          | (refine AI _ (by rfl) _ _ 81 9 (by rfl) (w.heap.size + 1 + 1) 5 i0 Tryz.underlying81 Tryz.underlying9 hi hz0 hz1 hz2 (.slice (some ⟨w.heap.size + 1 + 1,0,none⟩) 0 50) 0 [] (by rfl) ((Tryz.own50 (by simp) (by omega)).drew) _ (by rfl) (by unfold maxLen; simp [ByteArray.size]; omega) (by simp [ByteArray.size]; omega) (by simp) ?_; intro v2 w2 hown2 hgrow2))
      obtain ⟨hb2,hs2,c2,c3⟩:=Tryz.line_mid w w2 _ _ _ _ _ _ rfl hgrow2
      rename_i hKK hHeld
      exact hKK _ _ (Tryz.line_tail w w2 a b a0 a1 b0 b1 hT (Tryz.wd k) (by omega) v2 c2 c3 (by have h:=hown2; simpa [ByteArray.size,Lib.strCells,Lib.byteCells] using h) hb2 hs2 _ _ _ _ _ _ _ _ _ _ _ _ _ _ _ _ _ _ _ _ _ _ _ _ _ _ _ _ _ _ _ _ _ _ _)
    · have e:AH false why a b=[111,116,104,101,114]++32::(Lib.itoa a++32::Lib.itoa b):=by
        unfold AH Dz
        rw [if_neg (by decide),if_neg (by omega),if_neg (by omega),if_neg (by omega),if_neg (by omega)]
      rw [e]
      go_enter Tryz.func25,Tryz.ntmps25
      go_wp2
      all_goals
        go_region_held3 (fun w'=>w'.cell? ⟨w.heap.size,1,none⟩=some (.int .i64 0)∧w'.cell? ⟨w.heap.size + 1,0,none⟩=some (.string ⟨#[111,116,104,101,114]⟩))
          (first
            | go_keep
            | (go_split_ands; refine ⟨?_,?_⟩ <;> (rw [hgrow2.cell_far _ (by simp <;> omega) (fun h=>by have h:(_:Nat)=w.heap.size + 1 + 1:=Option.some.inj h; dsimp only at h; omega)]; assumption)))
          (first
            | (refine AI _ (by rfl) _ _ 81 9 (by rfl) (w.heap.size + 1 + 1) 5 i0 Tryz.underlying81 Tryz.underlying9 hi hz0 hz1 hz2 (.slice (some ⟨w.heap.size + 1 + 1,0,none⟩) 0 50) 0 [] (by rfl) ((Tryz.own50 (by simp) (by omega)).drew) _ (by rfl) (by decide) (by decide) (by simp) ?_; intro v2 w2 hown2 hgrow2))
        obtain ⟨hb2,hs2,c2,c3⟩:=Tryz.line_mid w w2 _ _ _ _ _ _ rfl hgrow2
        rename_i q1 q2 hHeld
        first
          | refine q2 _ _ ?_
          | refine q1 _ _ ?_
        exact (Tryz.line_tail w w2 a b a0 a1 b0 b1 hT [111,116,104,101,114] (by decide) v2 c2 c3 hown2 hb2 hs2 _ _ _ _ _ _ _ _ _ _ _ _ _ _ _ _ _ _ _ _ _ _ _ _ _ _ _ _ _ _ _ _ _ _ _)

end Go.Proofs
namespace Go.Proofs.YtomahedcdcnnhaaGreatDoor
open Go A
theorem yD:∀ (k u:Nat),u<10 ^ k→1≤k→wB k u=Lib.decDigits u
  | 0,_,_,h=>by omega
  | k + 1,u,h,_=>by
    unfold wB
    rw [Lib.decDigits]
    by_cases h10:u<10
    · rw [if_pos h10,dif_pos h10]
    · rw [if_neg h10,dif_neg h10]
      have:1≤k:=by
        cases k with
        | zero=>simp at h; omega
        | succ k=>omega
      rw [yD k (u / 10) (by rw [Nat.pow_succ] at h; omega) this]
theorem DC (n:Int) (h0:-9223372036854775808≤n) (h1:n≤9223372036854775807):qY n=Lib.itoa n:=by
  have p:(10:Nat) ^ 20=100000000000000000000:=by decide
  unfold qY Lib.itoa
  rw [yD 20 n.natAbs (by omega) (by decide),yD 20 n.toNat (by omega) (by decide)]
theorem EQ {E:Env} {row:List AV} {g:Nat} (h:VR E (.fptr row 0) (.pointer (some ⟨g,0,none⟩))):∃ us:List Value,us.length=row.length∧(∀ (m:Nat) (c:AV) (u:Value),row[m]?=some c→us[m]?=some u→VR E.fz c u)∧∀ (m:Nat) (u:Value),us[m]?=some u→cD E.h g m=some u:=by
  cases h with
  | fptr j us h1 h2 h3 h4=>exact ⟨us,h1,h2,fun m u hu=>by have:=h4 m u hu; simpa using this⟩
theorem Lu {F : Nat → Prop} {w : World} (hg : Cc ⟨F, fun _ => none, w.heap⟩) : Lib.TabIs Tryz.prog w "internal/strconv.uint64pow10" .u64 Lib.pow10Tab := by
  obtain ⟨h1,h2⟩:=hg 0 _ rfl
  obtain ⟨us,hl,hc,hu⟩:=EQ h1
  have eus:us=Lib.pow10Tab.map fun z=>Value.int .u64 z:=by
    apply List.ext_getElem?
    intro m
    by_cases hm:m<us.length
    · have hm2:m<Lib.pow10Tab.length:=by rw [Lib.pow10Tab_length]; rw [hl] at hm; exact hm
      have e1:(ky .u64 Lib.pow10Tab)[m]?=some (.v (.int .u64 Lib.pow10Tab[m])):=by
        unfold ky
        rw [List.getElem?_map,List.getElem?_eq_getElem hm2]
        rfl
      have e2:ky .u64 Lib.pow10Tab=ky .u64 [1,10,100,1000,10000,100000,1000000,10000000,100000000,1000000000,10000000000,100000000000,1000000000000,10000000000000,100000000000000,1000000000000000,10000000000000000,100000000000000000,1000000000000000000,10000000000000000000]:=by rw [show Lib.pow10Tab=_ from (by decide +kernel:Lib.pow10Tab=[1,10,100,1000,10000,100000,1000000,10000000,100000000,1000000000,10000000000,100000000000,1000000000000,10000000000000,100000000000000,1000000000000000,10000000000000000,100000000000000000,1000000000000000000,10000000000000000000])]
      rw [e2] at e1
      have e3:=hc m _ _ e1 (List.getElem?_eq_getElem hm)
      rw [List.getElem?_eq_getElem hm,List.getElem?_map,List.getElem?_eq_getElem hm2]
      generalize us[m]=x at e3
      cases e3
      rfl
    · rw [List.getElem?_eq_none (by omega),List.getElem?_eq_none (by rw [List.length_map,Lib.pow10Tab_length]; rw [hl] at hm; exact Nat.le_of_not_lt hm)]
  unfold Lib.TabIs World.var?
  rw [show Tryz.prog.globalNamed "internal/strconv.uint64pow10" = some 0 by kernel_rfl]
  simp only [Option.bind_some]
  have hlen:us.length=20:=hl
  replace h2:cD w.heap 0 20=none:=h2
  replace hu:∀ (m:Nat) (u:Value),us[m]?=some u→cD w.heap 0 m=some u:=hu
  unfold cD at h2 hu
  have h0:=hu 0 _ (List.getElem?_eq_getElem (by omega))
  cases hh:w.heap[0]? with
  | none=>rw [hh] at h0; cases h0
  | some o =>
    rw [hh] at h0 h2 hu
    cases o with
    | cells cs t fr =>
      have h2:cs[20]?=none:=h2
      have hu:∀ (m:Nat) (u:Value),us[m]?=some u→cs[m]?=some u:=hu
      have:cs=us.toArray:=by
        apply Array.ext'
        apply List.ext_getElem?
        intro m
        rw [Array.getElem?_toList]
        by_cases hm:m<us.length
        · rw [hu m _ (List.getElem?_eq_getElem hm)]
          simp
        · have h3:cs.size≤20:=by rw [Array.getElem?_eq_none_iff] at h2; exact h2
          rw [Array.getElem?_eq_none (by omega)]
          simp
          omega
      rw [this,eus]
    | _=>cases h0
theorem GN (ok:Bool) (why a b:Int) (ha:-9223372036854775808≤a∧a≤9223372036854775807) (hb:-9223372036854775808≤b∧b≤9223372036854775807) :
    DW Tryz.prog 25 [.agg [.v (.bool ok),.v (.int .i64 why),.v (.int .i64 a),.v (.int .i64 b)]] (.v (.string ⟨(wD ok why a b).toArray⟩)):=by
  refine ⟨⟨_,_,Tryz.func25,rfl,by kernel_rfl⟩,fun F w us hF hg hv=>?_⟩
  have e:us=#[.agg #[.bool ok,.int .i64 why,.int .i64 a,.int .i64 b]]:=by
    obtain ⟨hl,hv⟩:=hv
    obtain ⟨us⟩:=us
    match us,hl with
    | [u],_ =>
      have h1:=hv 0 _ u rfl rfl
      cases h1 with
      | agg cs hl2 h2 =>
        obtain ⟨cs⟩:=cs
        match cs,hl2 with
        | [a1,a2,a3,a4],_ =>
          have g1:=h2 0 _ a1 rfl rfl
          have g2:=h2 1 _ a2 rfl rfl
          have g3:=h2 2 _ a3 rfl rfl
          have g4:=h2 3 _ a4 rfl rfl
          cases g1
          cases g2
          cases g3
          cases g4
          rfl
  subst e
  refine (Tryz.line ok why a b ha.1 ha.2 hb.1 hb.2 w (Lu hg)).mono ?_
  rintro e w' ⟨rfl,hb'⟩
  have et:AH ok why a b=wD ok why a b:=by
    unfold AH wD
    rw [DC a ha.1 ha.2,DC b hb.1 hb.2]
    rfl
  rw [et]
  exact ⟨_,F,rfl,.v _ _ rfl,hb',fun _ h=>h,fun b h=>Nat.lt_of_lt_of_le (hF b h) hb'.size,fun _ h _=>h⟩

end Go.Proofs.YtomahedcdcnnhaaGreatDoor
