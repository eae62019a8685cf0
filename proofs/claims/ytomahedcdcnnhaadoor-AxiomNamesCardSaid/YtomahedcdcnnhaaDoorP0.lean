/- What the functions compute, they compute: printed by a program, path by path. No conditions. -/
import Derived.Test.YtomahedcdcnnhaaDoorProg
import Derived.Test.YtomahedcdcnnhaaDoorKB
import Derived.Test.YtomahedcdcnnhaaDoorM1
import Derived.KernelRfl
namespace Go.Proofs.YtomahedcdcnnhaaDoor
open Go A
set_option linter.unusedVariables false
set_option maxRecDepth 100000
def polF (f:Nat):Pol:={ esc:=match f with | 7=>[1] | 9=>[2] | 14=>[23] | 24=>[1] | 25=>[1] | 28=>[1] | 39=>[24] | 41=>[7] | 53=>[12] | 63=>[8] | _=>[],ms:=match f with | 4=>[26,34] | _=>[],bx:=match f with | 3=>[1,2,3,4,5,6] | 4=>[2] | 5=>[1,2,3] | 7=>[2,6] | 8=>[1] | 10=>[1,3] | 14=>[6] | 15=>[6] | 16=>[2,4] | 17=>[2,4] | 18=>[2,4] | 19=>[0] | 20=>[1] | 21=>[5,8] | 23=>[1,2] | 25=>[5] | 26=>[1] | 27=>[1] | 28=>[6] | 31=>[1,2] | 32=>[4] | 33=>[7] | 35=>[7,9] | 36=>[8] | 37=>[1,2] | 39=>[7] | 42=>[1,4,5] | 45=>[1] | 49=>[0] | 54=>[2,3,5,6] | 58=>[2] | 65=>[2] | 85=>[1,2] | 89=>[1] | _=>[],st:=[14,16,17,18,21,34,38,56],fz:=[],ow:=match f with | 14=>[21,45,54] | _=>[],cl:=match f with | 14=>[9,11] | _=>[],fr:=match f with | 14=>[11] | _=>[] }
def pureF (f:Nat):Bool:=!(hasN [14,16,17,18,21,34,38,56] f)
noncomputable def cfg:Cfg:={ P:=Tryd.prog,pure:=pureF,pol:=polF }
theorem mixed:cfg.P.follows .mixedOrders=true:=by kernel_rfl
theorem names0 : (cfg.P.funcs.all fun fn => !(fn.name == "runtime.NumGoroutine")) = true := by kernel_rfl
theorem names:NoNum cfg.P:=noNum_of names0
noncomputable def cx (pc:Nat→List AV→(AV→Prop)→Prop) (sc:Nat→List AV→List Ob→(AV→List Ob→Prop)→Prop) (lp:Pol→Code→St→(Ex→St→Prop)→Prop):Ctx:={ P:=Tryd.prog,pure:=pureF,pol:=polF,pcall:=pc,scall:=sc,loop:=lp }
theorem okP {A:Ans} {f:Nat} {args:List AV} {r:AV} (hB:ordB (polF f) A.ord (bodyOf Tryd.prog f)=true) (h:opure (cx (PCall Tryd.prog) (SD Tryd.prog) (LoopD Tryd.prog)) (CodeD Tryd.prog) A f args (fun x=>LeA x r)):PCall Tryd.prog f args (fun x=>x=r):=PCall.ofO (cfg:=cfg) names mixed hB h
theorem okS {A:Ans} {f:Nat} {args:List AV} {o o1:List Ob} {r1:AV} {K:AV→List Ob→Prop} (hB:ordB (polF f) A.ord (bodyOf Tryd.prog f)=true) (h:ostore (cx (PCall Tryd.prog) (SD Tryd.prog) (LoopD Tryd.prog)) (CodeD Tryd.prog) A f args o (fun r o2=>r=r1∧o2=o1)) (hk:K r1 o1):SD Tryd.prog f args o K:=SD.ofO (cfg:=cfg) names mixed hB h hk
theorem okR {pl:Pol} {c:Code} {S S1:St} {e:Ex} {K:Ex→St→Prop} {A:Ans} {we:List (Nat×(Wk×Le))} (hB:ordB pl A.ord c=true) (h:oround (cx (PCall Tryd.prog) (SD Tryd.prog) (LoopD Tryd.prog)) (CodeD Tryd.prog) A pl we c S (fun e2 S2=>e2=e∧S2=S1)) (hk:K e S1):CodeD Tryd.prog c S K:=CodeD.of (cfg:=cfg) mixed hB h hk
theorem okL {pl:Pol} {c:Code} {σ τ:Type} {step:σ→Option (σ⊕τ)} (Sf:σ→St) (out:τ→Ex×St) (hs:∀ s r,step s=some r→CodeD Tryd.prog c (Sf s) (rk Sf out r)) (n:Nat) (s:σ) (t:τ) (h:A.iter step n s=some t):LoopD Tryd.prog pl c (Sf s) fun e S2=>e=(out t).1∧S2=(out t).2:=LoopD.iter (cfg:=cfg) Sf out hs n s t h
def eArr2 {α:Type} (f:α→List AV) (x:Arr2 α):List AV:=f x.e0++f x.e1
def eArr4 {α:Type} (f:α→List AV) (x:Arr4 α):List AV:=f x.e0++f x.e1++f x.e2++f x.e3
def eArr13 {α:Type} (f:α→List AV) (x:Arr13 α):List AV:=f x.e0++f x.e1++f x.e2++f x.e3++f x.e4++f x.e5++f x.e6++f x.e7++f x.e8++f x.e9++f x.e10++f x.e11++f x.e12
def Cell.enc (x:Cell):List AV:=[.v (.int .u64 x.Addr),.v (.int .u64 x.Value)]
def Deps.enc (x:Deps):List AV:=[.sl (x.Addr.map (eInt .i64)),.sl (x.Data.map (eInt .i64)),.sl (x.Way.map (eInt .i64))]
def Event.enc (x:Event):List AV:=[.v (.int .i64 x.Hart),.v (.int .i64 x.At),.v (.int .i64 x.Kind),.v (.int .u64 x.Addr),.v (.int .u64 x.Load),.v (.int .u64 x.Store),.v (.bool x.Aq),.v (.bool x.Rl),.v (.int .i64 x.Pred),.v (.int .i64 x.Succ),.v (.int .i64 x.Pair),.sl (x.Deps.Addr.map (eInt .i64)),.sl (x.Deps.Data.map (eInt .i64)),.sl (x.Deps.Way.map (eInt .i64))]
def Cand.enc (x:Cand):List AV:=[.sl (x.First.map Cell.enc),.sl (x.Harts.map (eSl Event.enc)),.sl (x.From.map (eInt .i64)),.sl (x.Order.map (eInt .i64))]
def Judged.enc (x:Judged):List AV:=[.v (.bool x.OK),.v (.int .i64 x.Why),.v (.int .i64 x.A_),.v (.int .i64 x.B)]
def event_rest.enc (x:event_rest):List AV:=[.v (.int .i64 x.hart),.v (.int .i64 x.at_),.v (.int .i64 x.kind),.v (.int .i64 x.pred),.v (.int .i64 x.succ),.v (.int .i64 x.pair),.v (.int .u64 x.addr),.v (.int .u64 x.load),.v (.int .u64 x.store),.v (.bool x.aq),.v (.bool x.rl)]
def ppo_view.enc (x:ppo_view):List AV:=[(optP Cand.enc x.c),.sl (x.all.map Event.enc),.sl (x.fences.e0.map (eInt .i64)),.sl (x.fences.e1.map (eInt .i64)),.sl (x.fences.e2.map (eInt .i64)),.sl (x.fences.e3.map (eInt .i64)),.sl (x.hung.map (eInt .i64))]
theorem aggEq_Judged_eql (x y:Judged):aggEq Tryd.prog .eql 37 [(.bool x.OK),(.int .i64 x.Why),(.int .i64 x.A_),(.int .i64 x.B)] [(.bool y.OK),(.int .i64 y.Why),(.int .i64 y.A_),(.int .i64 y.B)]=some (.bool (Judged.beq x y)):=aggEq_eql (by kernel_rfl) (by kernel_rfl)
theorem aggEq_Judged_neq (x y:Judged):aggEq Tryd.prog .neq 37 [(.bool x.OK),(.int .i64 x.Why),(.int .i64 x.A_),(.int .i64 x.B)] [(.bool y.OK),(.int .i64 y.Why),(.int .i64 y.A_),(.int .i64 y.B)]=some (.bool (!Judged.beq x y)):=aggEq_neq (by kernel_rfl) (by kernel_rfl)
theorem aggEq_event_rest_eql (x y:event_rest):aggEq Tryd.prog .eql 124 [(.int .i64 x.hart),(.int .i64 x.at_),(.int .i64 x.kind),(.int .i64 x.pred),(.int .i64 x.succ),(.int .i64 x.pair),(.int .u64 x.addr),(.int .u64 x.load),(.int .u64 x.store),(.bool x.aq),(.bool x.rl)] [(.int .i64 y.hart),(.int .i64 y.at_),(.int .i64 y.kind),(.int .i64 y.pred),(.int .i64 y.succ),(.int .i64 y.pair),(.int .u64 y.addr),(.int .u64 y.load),(.int .u64 y.store),(.bool y.aq),(.bool y.rl)]=some (.bool (event_rest.beq x y)):=aggEq_eql (by kernel_rfl) (by kernel_rfl)
theorem aggEq_event_rest_neq (x y:event_rest):aggEq Tryd.prog .neq 124 [(.int .i64 x.hart),(.int .i64 x.at_),(.int .i64 x.kind),(.int .i64 x.pred),(.int .i64 x.succ),(.int .i64 x.pair),(.int .u64 x.addr),(.int .u64 x.load),(.int .u64 x.store),(.bool x.aq),(.bool x.rl)] [(.int .i64 y.hart),(.int .i64 y.at_),(.int .i64 y.kind),(.int .i64 y.pred),(.int .i64 y.succ),(.int .i64 y.pair),(.int .u64 y.addr),(.int .u64 y.load),(.int .u64 y.store),(.bool y.aq),(.bool y.rl)]=some (.bool (!event_rest.beq x y)):=aggEq_neq (by kernel_rfl) (by kernel_rfl)
theorem key_28:KeyOK Tryd.prog 28 (aInt .u64) (fun x=>Value.int .u64 x) beqI:=⟨fun _=>rfl,fun _ _=>by kernel_rfl,fun _ _=>by kernel_rfl,fun a b h=>by
  have e:=beqI_eq h
  subst e
  simp [Instr.sameBits,beq_toListBytes]⟩
theorem mapGetN_53 (l:(List (Int×(List Int)))) (k:Int) (h:mget beqI l k=none):MapFndP Tryd.prog 28 24 false (aInt .u64) (aSl (eInt .i64)) l k .nilsl:=mapGetN (by kernel_rfl) key_28 .nilsl (fun _=>by kernel_rfl) l k h
theorem mapGetS_53 (l:(List (Int×(List Int)))) (k:Int) {v:(List Int)} (h:mget beqI l k=some v):MapFndP Tryd.prog 28 24 false (aInt .u64) (aSl (eInt .i64)) l k ((aSl (eInt .i64)) v):=mapGetS (by kernel_rfl) key_28 l k h
theorem mapGetNOk_53 (l:(List (Int×(List Int)))) (k:Int) (h:mget beqI l k=none):MapFndP Tryd.prog 28 24 true (aInt .u64) (aSl (eInt .i64)) l k (.tup [.nilsl,.v (.bool false)]):=mapGetN (by kernel_rfl) key_28 (.tup [.nilsl,.v (.bool false)]) (fun _=>by kernel_rfl) l k h
theorem mapGetSOk_53 (l:(List (Int×(List Int)))) (k:Int) {v:(List Int)} (h:mget beqI l k=some v):MapFndP Tryd.prog 28 24 true (aInt .u64) (aSl (eInt .i64)) l k (.tup [(aSl (eInt .i64)) v,.v (.bool true)]):=mapGetS (by kernel_rfl) key_28 l k h
theorem mapPut_53 (l:(List (Int×(List Int)))) (k:Int) (v:(List Int)):MapPutP Tryd.prog 28 (aInt .u64) beqI (aSl (eInt .i64)) l k v:=mapPut (by kernel_rfl) key_28 l k v
theorem ownFind_53 (ks:List Int) (k:Int) {r:Option Nat} (h:kfind beqI ks k=r):OwnFindP Tryd.prog 28 (aInt .u64) ks k r:=ownFind (by kernel_rfl) key_28 ks k h
theorem ownUpdN_53 (ks:List Int) (k:Int) (h:kfind beqI ks k=none):OwnUpdP Tryd.prog 28 (aInt .u64) ks k none ((ks++[k]).map (aInt .u64)):=ownUpdN (by kernel_rfl) key_28 ks k h
theorem ownUpdS_53 (ks:List Int) (k:Int) {i:Nat} (h:kfind beqI ks k=some i):OwnUpdP Tryd.prog 28 (aInt .u64) ks k (some i) (ks.map (aInt .u64)):=ownUpdS (by kernel_rfl) key_28 (fun _ _=>beqI_eq) ks k h
noncomputable abbrev pP:=PCall Tryd.prog
noncomputable abbrev sP:=SD Tryd.prog
noncomputable abbrev lP:=LoopD Tryd.prog
noncomputable abbrev dP:=CodeD Tryd.prog
abbrev vT:AV:=.v (.bool true)
abbrev vF:AV:=.v (.bool false)
abbrev eqB (a b:Bool):Prop:=AV.v (.bool a)=AV.v (.bool b)
noncomputable abbrev oP (pc:Nat→List AV→(AV→Prop)→Prop) (sc:Nat→List AV→List Ob→(AV→List Ob→Prop)→Prop) (lp:Pol→Code→St→(Ex→St→Prop)→Prop) (cd:CutP):=opure (cx pc sc lp) cd
noncomputable abbrev oR (pc:Nat→List AV→(AV→Prop)→Prop) (sc:Nat→List AV→List Ob→(AV→List Ob→Prop)→Prop) (lp:Pol→Code→St→(Ex→St→Prop)→Prop) (cd:CutP):=oround (cx pc sc lp) cd
abbrev eqA (a:AV):AV→Prop:=fun x=>x=a
theorem okM {α:Type} {f:α→List AV} {l:List α} (hf:∀ x,(f x).all okCell=true:=by exact fun _=>rfl):okRows (l.map f)=true:=okRows_map f l hf
theorem szM {α:Type} {f:α→List AV} {l:List α} {sz:Nat} (hf:∀ x,Nat.beq (f x).length sz=true:=by exact fun _=>rfl):szOk sz (l.map f)=true:=szOk_map f l hf
theorem cB {a b:Bool} (h:a=b):AV.v (.bool a)=AV.v (.bool b):=congrArg aBool h
abbrev eI:Int→List AV:=eInt .i64
abbrev vI (n:Int):AV:=.v (.int .i64 n)
abbrev vU (n:Int):AV:=.v (.int .u64 n)
abbrev rVC (i:Nat) (v c:List (Nat×AV)):Nat×RAns:=(i,⟨[],[],[],v,c,[],[],[],[]⟩)
abbrev rV (i:Nat) (v:List (Nat×AV)):Nat×RAns:=(i,⟨[],[],[],v,[],[],[],[],[]⟩)
abbrev rC (i:Nat) (c:List (Nat×AV)):Nat×RAns:=(i,⟨[],[],[],[],c,[],[],[],[]⟩)
theorem kP {f:Nat} {args:List AV} {r:AV} {B:Prop} (A:Ans) (hB:ordB (polF f) A.ord (bodyOf Tryd.prog f)=true) (b:LeA r r→B) (h:opure (cx (PCall Tryd.prog) (SD Tryd.prog) (LoopD Tryd.prog)) (CodeD Tryd.prog) A f args (fun x=>LeA x r)=B):PCall Tryd.prog f args (fun x=>x=r):=okP hB (h.symm▸b (LeA.refl r))
theorem kS {f:Nat} {args:List AV} {o o1:List Ob} {r1:AV} {K:AV→List Ob→Prop} {B:Prop} (A:Ans) (hB:ordB (polF f) A.ord (bodyOf Tryd.prog f)=true) (hk:K r1 o1) (b:(r1=r1∧o1=o1)→B) (h:ostore (cx (PCall Tryd.prog) (SD Tryd.prog) (LoopD Tryd.prog)) (CodeD Tryd.prog) A f args o (fun r o2=>r=r1∧o2=o1)=B):SD Tryd.prog f args o K:=okS hB (h.symm▸b ⟨rfl,rfl⟩) hk
theorem kR {pl:Pol} {c:Code} {S S1:St} {e:Ex} {K:Ex→St→Prop} {B:Prop} (A:Ans) (we:List (Nat×(Wk×Le))) (hB:ordB pl A.ord c=true) (hk:K e S1) (b:(e=e∧S1=S1)→B) (h:oround (cx (PCall Tryd.prog) (SD Tryd.prog) (LoopD Tryd.prog)) (CodeD Tryd.prog) A pl we c S (fun e2 S2=>e2=e∧S2=S1)=B):CodeD Tryd.prog c S K:=okR hB (h.symm▸b ⟨rfl,rfl⟩) hk
theorem kQ {ρ:Type} {x r:ρ} (hr:some x=some r) {pl:Pol} {c:Code} {S S1:St} {e:Ex} {K:ρ→Ex→St→Prop} {B:Prop} (A:Ans) (we:List (Nat×(Wk×Le))) (hB:ordB pl A.ord c=true) (hk:K x e S1) (b:(e=e∧S1=S1)→B) (h:oround (cx (PCall Tryd.prog) (SD Tryd.prog) (LoopD Tryd.prog)) (CodeD Tryd.prog) A pl we c S (fun e2 S2=>e2=e∧S2=S1)=B):CodeD Tryd.prog c S (K r):=(soI hr)▸kR A we hB hk b h
abbrev l0:Le:=⟨[],[],[]⟩
abbrev nA (o:List (Nat×PT)) (r:List (Nat×RAns)):Ans:=⟨o,r,[],[],[]⟩
abbrev rR (i:Nat) (x:List (Nat×List AV)):Nat×RAns:=(i,⟨[],[],x,[],[],[],[],[],[]⟩)
abbrev wK (e:Nat) (a b:List Nat) (c:Nat):Nat×(Wk×Le):=(e,⟨a,b,c,[],[],[]⟩,l0)
theorem aI {a r:Prop} (h:a) (k:r):a∧r:=⟨h,k⟩
theorem aB {a b:Bool} {r:Prop} (h:a=b) (k:r):(AV.v (.bool a)=AV.v (.bool b))∧r:=⟨congrArg aBool h,k⟩
theorem aE (k:IntKind) {a b:Int} {r:Prop} (h:(a==b)=true) (z:r):(AV.v (.int k a)=AV.v (.int k b))∧r:=⟨eqI h,z⟩
theorem aL {α:Type} (f:α→List AV) (l:List α) {r:Prop} (k:r):(AV.v (.int .i64 (((l.map f).length:Nat):Int))=AV.v (.int .i64 (l.length:Int)))∧r:=⟨len_map f l,k⟩
theorem aM {α:Type} (f:α→List AV) {l:List α} {i:Int} {x:α} {r:Prop} (h:getI l i=some x) (k:r):(at? (l.map f) i=some (f x))∧r:=⟨at_map f h,k⟩
theorem aN {α:Type} (f:α→List AV) {l:List α} {i:Int} {x:α} {r:Prop} (h:getI l i=some x) (k:r):((l.map f)[i.toNat]?=some (f x))∧r:=⟨at_map' f h,k⟩

end Go.Proofs.YtomahedcdcnnhaaDoor
