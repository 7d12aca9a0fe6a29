/- The document's worlds: Do. No condition. -/
import Derived.Test.YtflenopenifofaaRw4n
import Derived.Test.YtflenopenifofaaRw4y
namespace Go.Proofs.Ytflenopenifofaa
open Go Go.RowKit Go.Deep
theorem rDoW_any (A0 : Option Addr) (n0 c0 : Nat) (A1 : Option Addr) (n1 c1 : Nat) (A2 : Option Addr) (n2 c2 : Nat) (x : Wd) (k a b v g : Int) (t : ByteArray) (args : List Int) (Ar : Option Addr) (nr cr : Nat) (hr : args.length = nr) (ht : t.size ≤ maxLen) (w : World) (h : WS w A0 n0 c0 A1 n1 c1 A2 n2 c2 x) :
    Calls Try.prog 14 #[wdC A0 n0 c0 A1 n1 c1 A2 n2 c2, .agg #[.int .i8 k, .int .i64 a, .int .i64 b, .int .i64 v, .int .i64 g, .string t, .slice Ar nr cr]] w (DoPost x ⟨k, a, b, v, g, t, args⟩ w) := by
  cases hm : mayW x ⟨k, a, b, v, g, t, args⟩
  · exact rDoW_no A0 n0 c0 A1 n1 c1 A2 n2 c2 x k a b v g t args Ar nr cr hr ht w h hm
  · exact rDoW_yes A0 n0 c0 A1 n1 c1 A2 n2 c2 x k a b v g t args Ar nr cr hr ht w h hm
end Go.Proofs.Ytflenopenifofaa
