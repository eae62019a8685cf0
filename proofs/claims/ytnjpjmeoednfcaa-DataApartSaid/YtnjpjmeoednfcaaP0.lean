/- What the functions compute, they compute: printed by a program, path by path. No conditions. -/
import Derived.Test.YtnjpjmeoednfcaaProg
import Derived.Test.YtnjpjmeoednfcaaKB
import Derived.Test.YtnjpjmeoednfcaaM1
import Derived.KernelRfl
namespace Go.Proofs.Ytnjpjmeoednfcaa
open Go A
set_option linter.unusedVariables false
set_option maxRecDepth 100000
def polF (f : Nat) : Pol := { esc := match f with | 17 => [4, 5] | _ => [], ms := [], bx := match f with | 4 => [9, 12, 15] | 5 => [21, 23, 25, 28] | 6 => [15, 18, 20] | 9 => [6, 7] | 10 => [9] | 11 => [4] | 14 => [9] | 16 => [4, 8] | 17 => [6] | 20 => [6] | 21 => [4] | 25 => [1] | 26 => [1] | 29 => [2, 3] | 31 => [1] | 33 => [3] | 34 => [1] | _ => [], st := [13, 27, 28, 35, 37, 38, 39, 40] }
def pureF (f : Nat) : Bool := !(hasN [13, 27, 28, 35, 37, 38, 39, 40] f)
noncomputable def cfg : Cfg := { P := Try.prog, pure := pureF, pol := polF }
theorem mixed : cfg.P.follows .mixedOrders = true := by kernel_rfl
theorem names0 : (cfg.P.funcs.all fun fn => !(fn.name == "runtime.NumGoroutine")) = true := by kernel_rfl
theorem names : NoNum cfg.P := noNum_of names0
noncomputable def cx (pc : Nat → List AV → (AV → Prop) → Prop) (sc : Nat → List AV → List Ob → (AV → List Ob → Prop) → Prop) (lp : Pol → Code → St → (Ex → St → Prop) → Prop) : Ctx := { P := Try.prog, pure := pureF, pol := polF, pcall := pc, scall := sc, loop := lp }
theorem okP {A : Ans} {f : Nat} {args : List AV} {r : AV} (hB : ordB (polF f) A.ord (bodyOf Try.prog f) = true) (h : opure (cx (PCall Try.prog) (SD Try.prog) (LoopD Try.prog)) (CodeD Try.prog) A f args (fun x => LeA x r)) : PCall Try.prog f args (fun x => x = r) := PCall.ofO (cfg := cfg) names mixed hB h
theorem okS {A : Ans} {f : Nat} {args : List AV} {o o1 : List Ob} {r1 : AV} {K : AV → List Ob → Prop} (hB : ordB (polF f) A.ord (bodyOf Try.prog f) = true) (h : ostore (cx (PCall Try.prog) (SD Try.prog) (LoopD Try.prog)) (CodeD Try.prog) A f args o (fun r o2 => r = r1 ∧ o2 = o1)) (hk : K r1 o1) : SD Try.prog f args o K := SD.ofO (cfg := cfg) names mixed hB h hk
theorem okR {pl : Pol} {c : Code} {S S1 : St} {e : Ex} {K : Ex → St → Prop} {A : Ans} {we : List (Nat × (Wk × Le))} (hB : ordB pl A.ord c = true) (h : oround (cx (PCall Try.prog) (SD Try.prog) (LoopD Try.prog)) (CodeD Try.prog) A pl we c S (fun e2 S2 => e2 = e ∧ S2 = S1)) (hk : K e S1) : CodeD Try.prog c S K := CodeD.of (cfg := cfg) mixed hB h hk
theorem okL {pl : Pol} {c : Code} {σ τ : Type} {step : σ → Option (σ ⊕ τ)} (Sf : σ → St) (out : τ → Ex × St) (hs : ∀ s r, step s = some r → CodeD Try.prog c (Sf s) (rk Sf out r)) (n : Nat) (s : σ) (t : τ) (h : A.iter step n s = some t) : LoopD Try.prog pl c (Sf s) fun e S2 => e = (out t).1 ∧ S2 = (out t).2 := LoopD.iter (cfg := cfg) Sf out hs n s t h
def Piece.enc (x : Piece) : List AV := [.v (.string x.Name), .v (.int .i64 x.Size), .v (.int .i64 x.Hart)]
def data_key.enc (x : data_key) : List AV := [.v (.string x.name), .v (.int .i64 x.hart)]
def data_piece.enc (x : data_piece) : List AV := [.v (.string x.Piece.Name), .v (.int .i64 x.Piece.Size), .v (.int .i64 x.Piece.Hart)]
def Seat.enc (x : Seat) : List AV := [.v (.string x.Piece.Name), .v (.int .i64 x.Piece.Size), .v (.int .i64 x.Piece.Hart), .v (.int .u64 x.Addr)]
theorem aggEq_Seat_eql (x y : Seat) : aggEq Try.prog .eql 41 [(.string x.Piece.Name), (.int .i64 x.Piece.Size), (.int .i64 x.Piece.Hart), (.int .u64 x.Addr)] [(.string y.Piece.Name), (.int .i64 y.Piece.Size), (.int .i64 y.Piece.Hart), (.int .u64 y.Addr)] = some (.bool (Seat.beq x y)) := aggEq_eql (by kernel_rfl) (by kernel_rfl)
theorem aggEq_Seat_neq (x y : Seat) : aggEq Try.prog .neq 41 [(.string x.Piece.Name), (.int .i64 x.Piece.Size), (.int .i64 x.Piece.Hart), (.int .u64 x.Addr)] [(.string y.Piece.Name), (.int .i64 y.Piece.Size), (.int .i64 y.Piece.Hart), (.int .u64 y.Addr)] = some (.bool (!Seat.beq x y)) := aggEq_neq (by kernel_rfl) (by kernel_rfl)
theorem aggEq_data_key_eql (x y : data_key) : aggEq Try.prog .eql 52 [(.string x.name), (.int .i64 x.hart)] [(.string y.name), (.int .i64 y.hart)] = some (.bool (data_key.beq x y)) := aggEq_eql (by kernel_rfl) (by kernel_rfl)
theorem aggEq_data_key_neq (x y : data_key) : aggEq Try.prog .neq 52 [(.string x.name), (.int .i64 x.hart)] [(.string y.name), (.int .i64 y.hart)] = some (.bool (!data_key.beq x y)) := aggEq_neq (by kernel_rfl) (by kernel_rfl)
theorem key_52 : KeyOK Try.prog 52 (aAgg data_key.enc) (fun x => Value.agg #[(.string x.name), (.int .i64 x.hart)]) data_key.beq := ⟨fun _ => rfl, fun _ _ => by kernel_rfl, fun _ _ => by kernel_rfl, fun a b h => by
  have e := data_key.beq_eq h
  subst e
  simp [Instr.sameBits, beq_toListBytes]⟩
theorem mapGet_50 (l : (List (data_key × Int))) (k : data_key) : MapGetP Try.prog 52 3 (aAgg data_key.enc) data_key.beq (aInt .i64) 0 l k := mapGet (by kernel_rfl) key_52 0 (fun _ => by kernel_rfl) l k
theorem mapGetOk_50 (l : (List (data_key × Int))) (k : data_key) : MapGetOkP Try.prog 52 3 (aAgg data_key.enc) data_key.beq (aInt .i64) 0 l k := mapGetOk (by kernel_rfl) key_52 0 (fun _ => by kernel_rfl) l k
theorem mapPut_50 (l : (List (data_key × Int))) (k : data_key) (v : Int) : MapPutP Try.prog 52 (aAgg data_key.enc) data_key.beq (aInt .i64) l k v := mapPut (by kernel_rfl) key_52 l k v

end Go.Proofs.Ytnjpjmeoednfcaa
