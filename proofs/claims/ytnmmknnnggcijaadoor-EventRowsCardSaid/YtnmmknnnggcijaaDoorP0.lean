/- What the functions compute, they compute: printed by a program, path by path. No conditions. -/
import Derived.Test.YtnmmknnnggcijaaDoorProg
import Derived.Test.YtnmmknnnggcijaaDoorKB
import Derived.Test.YtnmmknnnggcijaaDoorM1
import Derived.KernelRfl
namespace Go.Proofs.YtnmmknnnggcijaaDoor
open Go A
set_option linter.unusedVariables false
set_option maxRecDepth 100000
def polF (f:Nat):Pol:={ esc:=match f with | 45=>[5] | 46=>[7] | 65=>[12] | _=>[],ms:=[],bx:=match f with | 4=>[7,9,13] | 5=>[1,3,5,6] | 8=>[7] | 11=>[2] | 14=>[8,11,12,14] | 15=>[1,2] | 16=>[1,4,5] | 17=>[1] | 18=>[1] | 19=>[2,3] | 20=>[1] | 21=>[1] | 23=>[2,3,5,6] | 24=>[1,2] | 28=>[1,2] | 37=>[1,2] | _=>[],st:=[10],fz:=[] }
def pureF (f:Nat):Bool:=!(hasN [10] f)
noncomputable def cfg:Cfg:={ P:=Tryd.prog,pure:=pureF,pol:=polF }
theorem mixed:cfg.P.follows .mixedOrders=true:=by kernel_rfl
theorem names0 : (cfg.P.funcs.all fun fn => !(fn.name == "runtime.NumGoroutine")) = true := by kernel_rfl
theorem names:NoNum cfg.P:=noNum_of names0
noncomputable def cx (pc:Nat→List AV→(AV→Prop)→Prop) (sc:Nat→List AV→List Ob→(AV→List Ob→Prop)→Prop) (lp:Pol→Code→St→(Ex→St→Prop)→Prop):Ctx:={ P:=Tryd.prog,pure:=pureF,pol:=polF,pcall:=pc,scall:=sc,loop:=lp }
theorem okP {A:Ans} {f:Nat} {args:List AV} {r:AV} (hB:ordB (polF f) A.ord (bodyOf Tryd.prog f)=true) (h:opure (cx (PCall Tryd.prog) (SD Tryd.prog) (LoopD Tryd.prog)) (CodeD Tryd.prog) A f args (fun x=>LeA x r)):PCall Tryd.prog f args (fun x=>x=r):=PCall.ofO (cfg:=cfg) names mixed hB h
theorem okS {A:Ans} {f:Nat} {args:List AV} {o o1:List Ob} {r1:AV} {K:AV→List Ob→Prop} (hB:ordB (polF f) A.ord (bodyOf Tryd.prog f)=true) (h:ostore (cx (PCall Tryd.prog) (SD Tryd.prog) (LoopD Tryd.prog)) (CodeD Tryd.prog) A f args o (fun r o2=>r=r1∧o2=o1)) (hk:K r1 o1):SD Tryd.prog f args o K:=SD.ofO (cfg:=cfg) names mixed hB h hk
theorem okR {pl:Pol} {c:Code} {S S1:St} {e:Ex} {K:Ex→St→Prop} {A:Ans} {we:List (Nat×(Wk×Le))} (hB:ordB pl A.ord c=true) (h:oround (cx (PCall Tryd.prog) (SD Tryd.prog) (LoopD Tryd.prog)) (CodeD Tryd.prog) A pl we c S (fun e2 S2=>e2=e∧S2=S1)) (hk:K e S1):CodeD Tryd.prog c S K:=CodeD.of (cfg:=cfg) mixed hB h hk
theorem okL {pl:Pol} {c:Code} {σ τ:Type} {step:σ→Option (σ⊕τ)} (Sf:σ→St) (out:τ→Ex×St) (hs:∀ s r,step s=some r→CodeD Tryd.prog c (Sf s) (rk Sf out r)) (n:Nat) (s:σ) (t:τ) (h:A.iter step n s=some t):LoopD Tryd.prog pl c (Sf s) fun e S2=>e=(out t).1∧S2=(out t).2:=LoopD.iter (cfg:=cfg) Sf out hs n s t h
def Deps.enc (x:Deps):List AV:=[.sl (x.Addr.map (eInt .i64)),.sl (x.Data.map (eInt .i64)),.sl (x.Way.map (eInt .i64))]
def Event.enc (x:Event):List AV:=[.v (.int .i64 x.Hart),.v (.int .i64 x.At),.v (.int .i64 x.Kind),.v (.int .u64 x.Addr),.v (.int .u64 x.Load),.v (.int .u64 x.Store),.v (.bool x.Aq),.v (.bool x.Rl),.v (.int .i64 x.Pred),.v (.int .i64 x.Succ),.v (.int .i64 x.Pair),.sl (x.Deps.Addr.map (eInt .i64)),.sl (x.Deps.Data.map (eInt .i64)),.sl (x.Deps.Way.map (eInt .i64))]
def event_rest.enc (x:event_rest):List AV:=[.v (.int .i64 x.hart),.v (.int .i64 x.at_),.v (.int .i64 x.kind),.v (.int .i64 x.pred),.v (.int .i64 x.succ),.v (.int .i64 x.pair),.v (.int .u64 x.addr),.v (.int .u64 x.load),.v (.int .u64 x.store),.v (.bool x.aq),.v (.bool x.rl)]
theorem aggEq_event_rest_eql (x y:event_rest):aggEq Tryd.prog .eql 66 [(.int .i64 x.hart),(.int .i64 x.at_),(.int .i64 x.kind),(.int .i64 x.pred),(.int .i64 x.succ),(.int .i64 x.pair),(.int .u64 x.addr),(.int .u64 x.load),(.int .u64 x.store),(.bool x.aq),(.bool x.rl)] [(.int .i64 y.hart),(.int .i64 y.at_),(.int .i64 y.kind),(.int .i64 y.pred),(.int .i64 y.succ),(.int .i64 y.pair),(.int .u64 y.addr),(.int .u64 y.load),(.int .u64 y.store),(.bool y.aq),(.bool y.rl)]=some (.bool (event_rest.beq x y)):=aggEq_eql (by kernel_rfl) (by kernel_rfl)
theorem aggEq_event_rest_neq (x y:event_rest):aggEq Tryd.prog .neq 66 [(.int .i64 x.hart),(.int .i64 x.at_),(.int .i64 x.kind),(.int .i64 x.pred),(.int .i64 x.succ),(.int .i64 x.pair),(.int .u64 x.addr),(.int .u64 x.load),(.int .u64 x.store),(.bool x.aq),(.bool x.rl)] [(.int .i64 y.hart),(.int .i64 y.at_),(.int .i64 y.kind),(.int .i64 y.pred),(.int .i64 y.succ),(.int .i64 y.pair),(.int .u64 y.addr),(.int .u64 y.load),(.int .u64 y.store),(.bool y.aq),(.bool y.rl)]=some (.bool (!event_rest.beq x y)):=aggEq_neq (by kernel_rfl) (by kernel_rfl)
theorem key_3:KeyOK Tryd.prog 3 (aInt .i64) (fun x=>Value.int .i64 x) beqI:=⟨fun _=>rfl,fun _ _=>by kernel_rfl,fun _ _=>by kernel_rfl,fun a b h=>by
  have e:=beqI_eq h
  subst e
  simp [Instr.sameBits,beq_toListBytes]⟩
theorem mapGet_27 (l:(List (Int×Int))) (k:Int):MapGetP Tryd.prog 3 3 (aInt .i64) beqI (aInt .i64) 0 l k:=mapGet (by kernel_rfl) key_3 0 (fun _=>by kernel_rfl) l k
theorem mapGetOk_27 (l:(List (Int×Int))) (k:Int):MapGetOkP Tryd.prog 3 3 (aInt .i64) beqI (aInt .i64) 0 l k:=mapGetOk (by kernel_rfl) key_3 0 (fun _=>by kernel_rfl) l k
theorem mapPut_27 (l:(List (Int×Int))) (k:Int) (v:Int):MapPutP Tryd.prog 3 (aInt .i64) beqI (aInt .i64) l k v:=mapPut (by kernel_rfl) key_3 l k v
noncomputable abbrev pP:=PCall Tryd.prog
noncomputable abbrev sP:=SD Tryd.prog
noncomputable abbrev lP:=LoopD Tryd.prog
noncomputable abbrev dP:=CodeD Tryd.prog
abbrev vT:AV:=.v (.bool true)
abbrev vF:AV:=.v (.bool false)
abbrev eqB (a b:Bool):Prop:=AV.v (.bool a)=AV.v (.bool b)
noncomputable abbrev oP (pc:Nat→List AV→(AV→Prop)→Prop) (sc:Nat→List AV→List Ob→(AV→List Ob→Prop)→Prop) (lp:Pol→Code→St→(Ex→St→Prop)→Prop) (cd:CutP):=opure (cx pc sc lp) cd
noncomputable abbrev oR (pc:Nat→List AV→(AV→Prop)→Prop) (sc:Nat→List AV→List Ob→(AV→List Ob→Prop)→Prop) (lp:Pol→Code→St→(Ex→St→Prop)→Prop) (cd:CutP):=oround (cx pc sc lp) cd
abbrev eqA (a:AV):AV→Prop:=fun x=>x=a
theorem okM {α:Type} {f:α→List AV} {l:List α} (hf:∀ x,(f x).all okCell=true:=by exact fun _=>rfl):okRows (l.map f)=true:=okRows_map f l hf
theorem szM {α:Type} {f:α→List AV} {l:List α} {sz:Nat} (hf:∀ x,Nat.beq (f x).length sz=true:=by exact fun _=>rfl):szOk sz (l.map f)=true:=szOk_map f l hf
theorem cB {a b:Bool} (h:a=b):AV.v (.bool a)=AV.v (.bool b):=congrArg aBool h
abbrev eI:Int→List AV:=eInt .i64
abbrev vI (n:Int):AV:=.v (.int .i64 n)
abbrev vU (n:Int):AV:=.v (.int .u64 n)
abbrev rVC (i:Nat) (v c:List (Nat×AV)):Nat×RAns:=(i,⟨[],[],[],v,c,[],[],[]⟩)
abbrev rV (i:Nat) (v:List (Nat×AV)):Nat×RAns:=(i,⟨[],[],[],v,[],[],[],[]⟩)
abbrev rC (i:Nat) (c:List (Nat×AV)):Nat×RAns:=(i,⟨[],[],[],[],c,[],[],[]⟩)
theorem kP {f:Nat} {args:List AV} {r:AV} {B:Prop} (A:Ans) (hB:ordB (polF f) A.ord (bodyOf Tryd.prog f)=true) (b:LeA r r→B) (h:opure (cx (PCall Tryd.prog) (SD Tryd.prog) (LoopD Tryd.prog)) (CodeD Tryd.prog) A f args (fun x=>LeA x r)=B):PCall Tryd.prog f args (fun x=>x=r):=okP hB (h.symm▸b (LeA.refl r))
theorem kS {f:Nat} {args:List AV} {o o1:List Ob} {r1:AV} {K:AV→List Ob→Prop} {B:Prop} (A:Ans) (hB:ordB (polF f) A.ord (bodyOf Tryd.prog f)=true) (hk:K r1 o1) (b:(r1=r1∧o1=o1)→B) (h:ostore (cx (PCall Tryd.prog) (SD Tryd.prog) (LoopD Tryd.prog)) (CodeD Tryd.prog) A f args o (fun r o2=>r=r1∧o2=o1)=B):SD Tryd.prog f args o K:=okS hB (h.symm▸b ⟨rfl,rfl⟩) hk
theorem kR {pl:Pol} {c:Code} {S S1:St} {e:Ex} {K:Ex→St→Prop} {B:Prop} (A:Ans) (we:List (Nat×(Wk×Le))) (hB:ordB pl A.ord c=true) (hk:K e S1) (b:(e=e∧S1=S1)→B) (h:oround (cx (PCall Tryd.prog) (SD Tryd.prog) (LoopD Tryd.prog)) (CodeD Tryd.prog) A pl we c S (fun e2 S2=>e2=e∧S2=S1)=B):CodeD Tryd.prog c S K:=okR hB (h.symm▸b ⟨rfl,rfl⟩) hk
theorem aI {a r:Prop} (h:a) (k:r):a∧r:=⟨h,k⟩
theorem aB {a b:Bool} {r:Prop} (h:a=b) (k:r):(AV.v (.bool a)=AV.v (.bool b))∧r:=⟨congrArg aBool h,k⟩
theorem aE (k:IntKind) {a b:Int} {r:Prop} (h:(a==b)=true) (z:r):(AV.v (.int k a)=AV.v (.int k b))∧r:=⟨eqI h,z⟩
theorem aL {α:Type} (f:α→List AV) (l:List α) {r:Prop} (k:r):(AV.v (.int .i64 (((l.map f).length:Nat):Int))=AV.v (.int .i64 (l.length:Int)))∧r:=⟨len_map f l,k⟩
theorem aM {α:Type} (f:α→List AV) {l:List α} {i:Int} {x:α} {r:Prop} (h:getI l i=some x) (k:r):(at? (l.map f) i=some (f x))∧r:=⟨at_map f h,k⟩
theorem aN {α:Type} (f:α→List AV) {l:List α} {i:Int} {x:α} {r:Prop} (h:getI l i=some x) (k:r):((l.map f)[i.toNat]?=some (f x))∧r:=⟨at_map' f h,k⟩

end Go.Proofs.YtnmmknnnggcijaaDoor
