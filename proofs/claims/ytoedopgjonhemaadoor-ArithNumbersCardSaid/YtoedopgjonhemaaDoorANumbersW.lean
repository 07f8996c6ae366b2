/- ArithNumbers, walked: the four cases together. -/
import Derived.Test.YtoedopgjonhemaaDoorANumbersTT
import Derived.Test.YtoedopgjonhemaaDoorANumbersTF
import Derived.Test.YtoedopgjonhemaaDoorANumbersFT
import Derived.Test.YtoedopgjonhemaaDoorANumbersFF
namespace Go.Proofs.YtoedopgjonhemaaDoor
open Go Go.RowKit Go.Lw
theorem numbers_all (B : Nat) (dv : Value) (w : World) (hE : CEnv B dv w) (a b : Int) (ha : In64 a) (hb : In64 b) :
    Calls Tryd.prog 4 #[.int .i64 a, .int .i64 b] w fun x w' => x = .returned (.bool true) ∧ Kept (fun _ => False) w w' := by
  rcases h1 : (a != 0) with _ | _ <;> rcases h2 : (b != 0) with _ | _
  · exact numbers_FF B dv w hE a b ha hb h1 h2
  · exact numbers_FT B dv w hE a b ha hb h1 h2
  · exact numbers_TF B dv w hE a b ha hb h1 h2
  · exact numbers_TT B dv w hE a b ha hb h1 h2
/-- The statement's walk: it answers true, and nothing that was there has turned. -/
theorem numbers_below (B : Nat) (dv : Value) (w : World) (hE : CEnv B dv w) (a b : Int) (ha : In64 a) (hb : In64 b) :
    Calls Tryd.prog 4 #[.int .i64 a, .int .i64 b] w fun e w' => e = .returned (.bool true) ∧ Below w.heap.size w w' :=
  (numbers_all B dv w hE a b ha hb).mono fun _ _ h => ⟨h.1, Below.of_kept h.2⟩
end Go.Proofs.YtoedopgjonhemaaDoor
