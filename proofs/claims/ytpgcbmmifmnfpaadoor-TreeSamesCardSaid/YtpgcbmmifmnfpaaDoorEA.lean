/- The seat's program as the second reading has it; what a call leaves as it is. No condition. -/
import Derived.Test.YtpgcbmmifmnfpaaDoorAF
import Derived.Test.YtpgcbmmifmnfpaaDoorProg
import Derived.Lib.ItoaNum
import Derived.Lib.Strings
import Derived.Lib.IndexAny
import Derived.Lib.Join
namespace Go.Proofs.YtpgcbmmifmnfpaaDoorV
open Go Go.RowKit Go.Proofs.YtpgcbmmifmnfpaaDoorA
set_option linter.unusedVariables false
set_option linter.unusedSimpArgs false
set_option maxRecDepth 100000

/-- whole functions by what they answer: flat arguments, and of the world only new blocks -/
def litsOf : List AVal → Option (List Value)
  | [] => some []
  | .lit v :: l => (litsOf l).map (v :: ·)
  | _ => none
def purePrim (F : List Value → Option AVal) : List AVal → ASt → Option (AEnd × ASt) := fun args st => (litsOf args).bind fun vs => (F vs).map fun r => (.returned r, st)
/-- FormatInt, of base 10 -/
def formatF : List Value → Option AVal
  | [.int .i64 n, .int .i64 10] => if -9223372036854775808 ≤ n ∧ n ≤ 9223372036854775807 then some (.lit (.string ⟨(Lib.itoa n).toArray⟩)) else none
  | _ => none
def itoaF : List Value → Option AVal
  | [.int .i64 n] => if -9223372036854775808 ≤ n ∧ n ≤ 9223372036854775807 then some (.lit (.string ⟨(Lib.itoa n).toArray⟩)) else none
  | _ => none
def asciiB (s : ByteArray) : Bool := s.data.toList.all fun b => decide (b.toNat < 128)
def canyF : List Value → Option AVal
  | [.string s, .string p] => if s.size < 4294967281 ∧ p.size < 4294967281 ∧ asciiB s = true ∧ asciiB p = true then some (.lit (.bool (Lib.containsAny s.data.toList p.data.toList))) else none
  | _ => none
def strsL : List AVal → Option (List ByteArray)
  | [] => some []
  | .lit (.string s) :: l => (strsL l).map (s :: ·)
  | _ => none
def joinP : List AVal → ASt → Option (AEnd × ASt)
  | [.lit (.slice none 0 0), .lit (.string sep)], st => some (.returned (.lit (.string ⟨#[]⟩)), st)
  | [.islice 1 [] c, .lit (.string sep)], st => some (.returned (.lit (.string ⟨#[]⟩)), st)
  | [.islice 1 (a :: es) c, .lit (.string sep)], st => (strsL (a :: es)).bind fun xs => if xs.length ≤ 140737488355328 ∧ (Lib.join (xs.map (·.data.toList)) sep.data.toList).length ≤ 140737488355328 then some (.returned (.lit (.string ⟨(Lib.join (xs.map (·.data.toList)) sep.data.toList).toArray⟩)), st) else none
  | _, _ => none
def prims (f : FuncId) : Option (List AVal → ASt → Option (AEnd × ASt)) :=
  if f = 56 then some (purePrim formatF) else
  if f = 43 then some (purePrim itoaF) else
  if f = 49 then some (purePrim canyF) else
  if f = 39 then some joinP else
  none
noncomputable def E : Env := { P := Tryd.prog, hint := fun f t => (f == 22 && (t == 14)) || (f == 14 && (t == 109)), glob := fun k => if k = 2 then some (.iptr (.agg ([.int .u64 1, .int .u64 10, .int .u64 100, .int .u64 1000, .int .u64 10000, .int .u64 100000, .int .u64 1000000, .int .u64 10000000, .int .u64 100000000, .int .u64 1000000000, .int .u64 10000000000, .int .u64 100000000000, .int .u64 1000000000000, .int .u64 10000000000000, .int .u64 100000000000000, .int .u64 1000000000000000, .int .u64 10000000000000000, .int .u64 100000000000000000, .int .u64 1000000000000000000, .int .u64 10000000000000000000].map .lit))) else none, prim := prims }
noncomputable def code (fn : Func) : Code := fn.body.getD .skip

/-- nothing that was there was written -/
def Gr (st st' : ASt) : Prop := st.ctr ≤ st'.ctr ∧ ∀ j, j < st.ctr → st'.heap j = st.heap j
theorem Gr.refl (st : ASt) : Gr st st := ⟨Nat.le_refl _, fun _ _ => rfl⟩
theorem Gr.trans {a b c : ASt} (h : Gr a b) (h' : Gr b c) : Gr a c := ⟨Nat.le_trans h.1 h'.1, fun j hj => by rw [h'.2 j (Nat.lt_of_lt_of_le hj h.1), h.2 j hj]⟩
theorem Gr.new (st : ASt) (b : Blk) : Gr st (st.new b) := ⟨by simp [ASt.new], fun j hj => ASt.new_ne _ _ _ (by omega)⟩

theorem tmod_n (a b : Nat) : (a : Int).tmod (b : Int) = ((a % b : Nat) : Int) := by rw [Int.tmod_eq_emod_of_nonneg (by omega)]; rfl
theorem tdiv_n (a b : Nat) : (a : Int).tdiv (b : Int) = ((a / b : Nat) : Int) := by rw [Int.tdiv_eq_ediv_of_nonneg (by omega)]; rfl
end Go.Proofs.YtpgcbmmifmnfpaaDoorV
