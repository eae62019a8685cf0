/- What the functions compute, they compute: printed by a program, path by path. No conditions. -/
import Derived.Test.YtcckeabholabcaaProg
import Derived.Test.YtcckeabholabcaaKB
import Derived.Test.YtcckeabholabcaaM1
import Derived.Test.YtcckeabholabcaaIS
import Derived.KernelRfl
namespace Go.Proofs.Ytcckeabholabcaa
open Go A
set_option linter.unusedVariables false
set_option maxRecDepth 100000
def polF (f:Nat):Pol:={ esc:=match f with | 10=>[1] | 15=>[1] | 16=>[1] | 22=>[3] | 37=>[1] | 42=>[1,3,4] | 78=>[7] | 79=>[9] | _=>[],ms:=[],bx:=match f with | 3=>[2,6] | 4=>[1,7] | 5=>[3,8,10,11] | 6=>[1] | 7=>[1,8] | 9=>[2] | 15=>[6,9] | 16=>[5] | 17=>[2] | 18=>[1] | 19=>[1,2,3] | 20=>[1] | 21=>[1] | 23=>[2,3] | 24=>[1] | 25=>[2,3,4] | 27=>[2,3] | 29=>[4] | 30=>[7] | 32=>[7,9] | 33=>[8] | 34=>[1,2] | 35=>[1] | 38=>[1,2] | 43=>[2,3] | 45=>[8,9] | 46=>[2,3,5,6] | 50=>[2] | 51=>[1,4,5] | 53=>[1] | 54=>[1] | 55=>[1,2] | 62=>[2] | 66=>[1,2] | 69=>[2] | _=>[],st:=[19,31,40,68],fz:=[],dc:=[19,40] }
def pureF (f:Nat):Bool:=!(hasN [19,31,40,68] f)
noncomputable def cfg:Cfg:={ P:=Try.prog,pure:=pureF,pol:=polF }
theorem mixed:cfg.P.follows .mixedOrders=true:=by kernel_rfl
theorem names0 : (cfg.P.funcs.all fun fn => !(fn.name == "runtime.NumGoroutine")) = true := by kernel_rfl
theorem names:NoNum cfg.P:=noNum_of names0
noncomputable def cx (pc:Nat→List AV→(AV→Prop)→Prop) (sc:Nat→List AV→List Ob→(AV→List Ob→Prop)→Prop) (lp:Pol→Code→St→(Ex→St→Prop)→Prop):Ctx:={ P:=Try.prog,pure:=pureF,pol:=polF,pcall:=pc,scall:=sc,loop:=lp }
theorem okP {A:Ans} {f:Nat} {args:List AV} {r:AV} (hB:ordB (polF f) A.ord (bodyOf Try.prog f)=true) (h:opure (cx (PCall Try.prog) (SD Try.prog) (LoopD Try.prog)) (CodeD Try.prog) A f args (fun x=>LeA x r)):PCall Try.prog f args (fun x=>x=r):=PCall.ofO (cfg:=cfg) names mixed hB h
theorem okS {A:Ans} {f:Nat} {args:List AV} {o o1:List Ob} {r1:AV} {K:AV→List Ob→Prop} (hB:ordB (polF f) A.ord (bodyOf Try.prog f)=true) (h:ostore (cx (PCall Try.prog) (SD Try.prog) (LoopD Try.prog)) (CodeD Try.prog) A f args o (fun r o2=>r=r1∧o2=o1)) (hk:K r1 o1):SD Try.prog f args o K:=SD.ofO (cfg:=cfg) names mixed hB h hk
theorem okR {pl:Pol} {c:Code} {S S1:St} {e:Ex} {K:Ex→St→Prop} {A:Ans} {we:List (Nat×(Wk×Le))} (hB:ordB pl A.ord c=true) (h:oround (cx (PCall Try.prog) (SD Try.prog) (LoopD Try.prog)) (CodeD Try.prog) A pl we c S (fun e2 S2=>e2=e∧S2=S1)) (hk:K e S1):CodeD Try.prog c S K:=CodeD.of (cfg:=cfg) mixed hB h hk
theorem okL {pl:Pol} {c:Code} {σ τ:Type} {step:σ→Option (σ⊕τ)} (Sf:σ→St) (out:τ→Ex×St) (hs:∀ s r,step s=some r→CodeD Try.prog c (Sf s) (rk Sf out r)) (n:Nat) (s:σ) (t:τ) (h:A.iter step n s=some t):LoopD Try.prog pl c (Sf s) fun e S2=>e=(out t).1∧S2=(out t).2:=LoopD.iter (cfg:=cfg) Sf out hs n s t h
def Cell.enc (x:Cell):List AV:=[.v (.int .u64 x.Addr),.v (.int .u64 x.Value)]
def Deps.enc (x:Deps):List AV:=[.sl (x.Addr.map (eInt .i64)),.sl (x.Data.map (eInt .i64)),.sl (x.Way.map (eInt .i64))]
def Event.enc (x:Event):List AV:=[.v (.int .i64 x.Hart),.v (.int .i64 x.At),.v (.int .i64 x.Kind),.v (.int .u64 x.Addr),.v (.int .u64 x.Load),.v (.int .u64 x.Store),.v (.bool x.Aq),.v (.bool x.Rl),.v (.int .i64 x.Pred),.v (.int .i64 x.Succ),.v (.int .i64 x.Pair),.sl (x.Deps.Addr.map (eInt .i64)),.sl (x.Deps.Data.map (eInt .i64)),.sl (x.Deps.Way.map (eInt .i64))]
def Cand.enc (x:Cand):List AV:=[.sl (x.First.map Cell.enc),.sl (x.Harts.map (eSl Event.enc)),.sl (x.From.map (eInt .i64)),.sl (x.Order.map (eInt .i64))]
def event_rest.enc (x:event_rest):List AV:=[.v (.int .i64 x.hart),.v (.int .i64 x.at_),.v (.int .i64 x.kind),.v (.int .i64 x.pred),.v (.int .i64 x.succ),.v (.int .i64 x.pair),.v (.int .u64 x.addr),.v (.int .u64 x.load),.v (.int .u64 x.store),.v (.bool x.aq),.v (.bool x.rl)]
theorem aggEq_event_rest_eql (x y:event_rest):aggEq Try.prog .eql 98 [(.int .i64 x.hart),(.int .i64 x.at_),(.int .i64 x.kind),(.int .i64 x.pred),(.int .i64 x.succ),(.int .i64 x.pair),(.int .u64 x.addr),(.int .u64 x.load),(.int .u64 x.store),(.bool x.aq),(.bool x.rl)] [(.int .i64 y.hart),(.int .i64 y.at_),(.int .i64 y.kind),(.int .i64 y.pred),(.int .i64 y.succ),(.int .i64 y.pair),(.int .u64 y.addr),(.int .u64 y.load),(.int .u64 y.store),(.bool y.aq),(.bool y.rl)]=some (.bool (event_rest.beq x y)):=aggEq_eql (by kernel_rfl) (by kernel_rfl)
theorem aggEq_event_rest_neq (x y:event_rest):aggEq Try.prog .neq 98 [(.int .i64 x.hart),(.int .i64 x.at_),(.int .i64 x.kind),(.int .i64 x.pred),(.int .i64 x.succ),(.int .i64 x.pair),(.int .u64 x.addr),(.int .u64 x.load),(.int .u64 x.store),(.bool x.aq),(.bool x.rl)] [(.int .i64 y.hart),(.int .i64 y.at_),(.int .i64 y.kind),(.int .i64 y.pred),(.int .i64 y.succ),(.int .i64 y.pair),(.int .u64 y.addr),(.int .u64 y.load),(.int .u64 y.store),(.bool y.aq),(.bool y.rl)]=some (.bool (!event_rest.beq x y)):=aggEq_neq (by kernel_rfl) (by kernel_rfl)
noncomputable abbrev pP:=PCall Try.prog
noncomputable abbrev sP:=SD Try.prog
noncomputable abbrev lP:=LoopD Try.prog
noncomputable abbrev dP:=CodeD Try.prog
abbrev vT:AV:=.v (.bool true)
abbrev vF:AV:=.v (.bool false)
abbrev eqB (a b:Bool):Prop:=AV.v (.bool a)=AV.v (.bool b)
noncomputable abbrev oP (pc:Nat→List AV→(AV→Prop)→Prop) (sc:Nat→List AV→List Ob→(AV→List Ob→Prop)→Prop) (lp:Pol→Code→St→(Ex→St→Prop)→Prop) (cd:CutP):=opure (cx pc sc lp) cd
noncomputable abbrev oR (pc:Nat→List AV→(AV→Prop)→Prop) (sc:Nat→List AV→List Ob→(AV→List Ob→Prop)→Prop) (lp:Pol→Code→St→(Ex→St→Prop)→Prop) (cd:CutP):=oround (cx pc sc lp) cd
abbrev eqA (a:AV):AV→Prop:=fun x=>x=a
theorem okM {α:Type} {f:α→List AV} {l:List α} (hf:∀ x,(f x).all okCell=true:=by exact fun _=>rfl):okRows (l.map f)=true:=okRows_map f l hf
theorem szM {α:Type} {f:α→List AV} {l:List α} {sz:Nat} (hf:∀ x,Nat.beq (f x).length sz=true:=by exact fun _=>rfl):szOk sz (l.map f)=true:=szOk_map f l hf
theorem cB {a b:Bool} (h:a=b):AV.v (.bool a)=AV.v (.bool b):=congrArg aBool h
abbrev eI:Int→List AV:=eInt .i64
abbrev vI (n:Int):AV:=.v (.int .i64 n)
abbrev vU (n:Int):AV:=.v (.int .u64 n)
abbrev rVC (i:Nat) (v c:List (Nat×AV)):Nat×RAns:=(i,⟨[],[],[],v,c,[],[],[]⟩)
abbrev rV (i:Nat) (v:List (Nat×AV)):Nat×RAns:=(i,⟨[],[],[],v,[],[],[],[]⟩)
abbrev rC (i:Nat) (c:List (Nat×AV)):Nat×RAns:=(i,⟨[],[],[],[],c,[],[],[]⟩)
theorem kP {f:Nat} {args:List AV} {r:AV} {B:Prop} (A:Ans) (hB:ordB (polF f) A.ord (bodyOf Try.prog f)=true) (b:LeA r r→B) (h:opure (cx (PCall Try.prog) (SD Try.prog) (LoopD Try.prog)) (CodeD Try.prog) A f args (fun x=>LeA x r)=B):PCall Try.prog f args (fun x=>x=r):=okP hB (h.symm▸b (LeA.refl r))
theorem kS {f:Nat} {args:List AV} {o o1:List Ob} {r1:AV} {K:AV→List Ob→Prop} {B:Prop} (A:Ans) (hB:ordB (polF f) A.ord (bodyOf Try.prog f)=true) (hk:K r1 o1) (b:(r1=r1∧o1=o1)→B) (h:ostore (cx (PCall Try.prog) (SD Try.prog) (LoopD Try.prog)) (CodeD Try.prog) A f args o (fun r o2=>r=r1∧o2=o1)=B):SD Try.prog f args o K:=okS hB (h.symm▸b ⟨rfl,rfl⟩) hk
theorem kR {pl:Pol} {c:Code} {S S1:St} {e:Ex} {K:Ex→St→Prop} {B:Prop} (A:Ans) (we:List (Nat×(Wk×Le))) (hB:ordB pl A.ord c=true) (hk:K e S1) (b:(e=e∧S1=S1)→B) (h:oround (cx (PCall Try.prog) (SD Try.prog) (LoopD Try.prog)) (CodeD Try.prog) A pl we c S (fun e2 S2=>e2=e∧S2=S1)=B):CodeD Try.prog c S K:=okR hB (h.symm▸b ⟨rfl,rfl⟩) hk
theorem aI {a r:Prop} (h:a) (k:r):a∧r:=⟨h,k⟩
theorem aB {a b:Bool} {r:Prop} (h:a=b) (k:r):(AV.v (.bool a)=AV.v (.bool b))∧r:=⟨congrArg aBool h,k⟩
theorem aE (k:IntKind) {a b:Int} {r:Prop} (h:(a==b)=true) (z:r):(AV.v (.int k a)=AV.v (.int k b))∧r:=⟨eqI h,z⟩
theorem aL {α:Type} (f:α→List AV) (l:List α) {r:Prop} (k:r):(AV.v (.int .i64 (((l.map f).length:Nat):Int))=AV.v (.int .i64 (l.length:Int)))∧r:=⟨len_map f l,k⟩
theorem aM {α:Type} (f:α→List AV) {l:List α} {i:Int} {x:α} {r:Prop} (h:getI l i=some x) (k:r):(at? (l.map f) i=some (f x))∧r:=⟨at_map f h,k⟩
theorem aN {α:Type} (f:α→List AV) {l:List α} {i:Int} {x:α} {r:Prop} (h:getI l i=some x) (k:r):((l.map f)[i.toNat]?=some (f x))∧r:=⟨at_map' f h,k⟩

end Go.Proofs.Ytcckeabholabcaa
