/- The seat's program as the second reading has it; what a call leaves as it is. No condition. -/
import Derived.Test.YtlpdplchcpkajaaDoorAF
import Derived.Test.YtlpdplchcpkajaaDoorProg
import Derived.Lib.ParseIntB
import Derived.Lib.ItoaNum
import Derived.Lib.Strings
import Derived.Lib.LastIndexByte
import Derived.Lib.IndexMore
namespace Go.Proofs.YtlpdplchcpkajaaDoorV
open Go Go.RowKit Go.Proofs.YtlpdplchcpkajaaDoorA
set_option linter.unusedVariables false
set_option linter.unusedSimpArgs false
set_option maxRecDepth 100000

/-- whole functions by what they answer: flat arguments, and of the world only new blocks -/
def litsOf : List AVal → Option (List Value)
  | [] => some []
  | .lit v :: l => (litsOf l).map (v :: ·)
  | _ => none
def purePrim (F : List Value → Option AVal) : List AVal → ASt → Option (AEnd × ASt) := fun args st => (litsOf args).bind fun vs => (F vs).map fun r => (.returned r, st)
/-- ParseInt, of base 10 and 32 bits -/
def parseF (T : TypeId) : List Value → Option AVal
  | [.string s, .int .i64 10, .int .i64 32] => if s.size ≤ 281474976710656 then
      some (match Lib.parseIntB 32 s.data.toList with
        | .ok v => .tuple [.lit (.int .i64 v), .lit .nilIface]
        | .range => .tuple [.lit (.int .i64 (Lib.intSat 32 s.data.toList)), .iface T (.iptr (.agg []))]
        | _ => .tuple [.lit (.int .i64 0), .iface T (.iptr (.agg []))]) else none
  | _ => none
/-- FormatInt, of base 10 -/
def formatF : List Value → Option AVal
  | [.int .i64 n, .int .i64 10] => if -9223372036854775808 ≤ n ∧ n ≤ 9223372036854775807 then some (.lit (.string ⟨(Lib.itoa n).toArray⟩)) else none
  | _ => none
def cutsufF : List Value → Option AVal
  | [.string s, .string p] => if s.size ≤ 9223372036854775807 then some (.tuple [.lit (.string ⟨(Lib.trimSuffix s.data.toList p.data.toList).toArray⟩), .lit (.bool (Lib.hasSuffix s.data.toList p.data.toList))]) else none
  | _ => none
def lastixF : List Value → Option AVal
  | [.string s, .int .u8 c] => if s.size < 4611686018427387904 then some (.lit (.int .i64 (Lib.lastIndexByte s c))) else none
  | _ => none
def ixbyteF : List Value → Option AVal
  | [.string s, .int .u8 c] => some (.lit (.int .i64 (Lib.indexByte s.data.toList c.toNat.toUInt8)))
  | _ => none
def hasprefF : List Value → Option AVal
  | [.string s, .string p] => some (.lit (.bool (Lib.hasPrefix s.data.toList p.data.toList)))
  | _ => none
def containsF : List Value → Option AVal
  | [.string s, .string p] => if s.size < 4294967281 then some (.lit (.bool (Lib.contains s.data.toList p.data.toList))) else none
  | _ => none
def prims (f : FuncId) : Option (List AVal → ASt → Option (AEnd × ASt)) :=
  if f = 86 then some (purePrim (parseF 151)) else
  if f = 84 then some (purePrim formatF) else
  if f = 69 then some (purePrim cutsufF) else
  if f = 71 then some (purePrim lastixF) else
  if f = 53 then some (purePrim ixbyteF) else
  if f = 26 then some (purePrim hasprefF) else
  if f = 29 then some (purePrim containsF) else
  none
noncomputable def E : Env := { P := Tryd.prog, hint := fun f t => false, glob := fun k => if k = 2 then some (.iptr (.agg ([.int .u64 1, .int .u64 10, .int .u64 100, .int .u64 1000, .int .u64 10000, .int .u64 100000, .int .u64 1000000, .int .u64 10000000, .int .u64 100000000, .int .u64 1000000000, .int .u64 10000000000, .int .u64 100000000000, .int .u64 1000000000000, .int .u64 10000000000000, .int .u64 100000000000000, .int .u64 1000000000000000, .int .u64 10000000000000000, .int .u64 100000000000000000, .int .u64 1000000000000000000, .int .u64 10000000000000000000].map .lit))) else none, prim := prims }
noncomputable def code (fn : Func) : Code := fn.body.getD .skip

/-- nothing that was there was written -/
def Gr (st st' : ASt) : Prop := st.ctr ≤ st'.ctr ∧ ∀ j, j < st.ctr → st'.heap j = st.heap j
theorem Gr.refl (st : ASt) : Gr st st := ⟨Nat.le_refl _, fun _ _ => rfl⟩
theorem Gr.trans {a b c : ASt} (h : Gr a b) (h' : Gr b c) : Gr a c := ⟨Nat.le_trans h.1 h'.1, fun j hj => by rw [h'.2 j (Nat.lt_of_lt_of_le hj h.1), h.2 j hj]⟩
theorem Gr.new (st : ASt) (b : Blk) : Gr st (st.new b) := ⟨by simp [ASt.new], fun j hj => ASt.new_ne _ _ _ (by omega)⟩

theorem tmod_n (a b : Nat) : (a : Int).tmod (b : Int) = ((a % b : Nat) : Int) := by rw [Int.tmod_eq_emod_of_nonneg (by omega)]; rfl
theorem tdiv_n (a b : Nat) : (a : Int).tdiv (b : Int) = ((a / b : Nat) : Int) := by rw [Int.tdiv_eq_ediv_of_nonneg (by omega)]; rfl
end Go.Proofs.YtlpdplchcpkajaaDoorV
