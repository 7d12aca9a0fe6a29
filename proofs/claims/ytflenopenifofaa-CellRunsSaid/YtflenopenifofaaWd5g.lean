/- Package cell: Do, a part. No condition. -/
import Derived.Test.YtflenopenifofaaWd5a
import Derived.Test.YtflenopenifofaaWd5b
import Derived.Test.YtflenopenifofaaWd5c
import Derived.Test.YtflenopenifofaaWd5d
import Derived.Test.YtflenopenifofaaWd5e
import Derived.Test.YtflenopenifofaaWd5f
import Derived.Laws.Small
namespace Go.Proofs.Ytflenopenifofaa
open Go Go.RowKit Go.Deep
attribute [local go_sem] cell?_ext frozen?_ext

theorem DoW_any (A0 : Option Addr) (n0 c0 : Nat) (A1 : Option Addr) (n1 c1 : Nat) (A2 : Option Addr) (n2 c2 : Nat) (x : Wd) (k a b v g : Int) (t : ByteArray) (args : List Int) (Ar : Option Addr) (nr cr : Nat) (hr : args.length = nr) (ht : t.size ≤ maxLen) (w : World) (h : WS w A0 n0 c0 A1 n1 c1 A2 n2 c2 x) :
    Calls Try.prog 13 #[wdC A0 n0 c0 A1 n1 c1 A2 n2 c2, .agg #[.int .i8 k, .int .i64 a, .int .i64 b, .int .i64 v, .int .i64 g, .string t, .slice Ar nr cr]] w (DoPost x ⟨k, a, b, v, g, t, args⟩ w) := by
  cases hm : mayW x ⟨k, a, b, v, g, t, args⟩
  · exact DoW_no A0 n0 c0 A1 n1 c1 A2 n2 c2 x k a b v g t args Ar nr cr hr ht w h hm
  rcases kind_cases ((mayW_iff _ _).1 hm).2.2.2 with ⟨e, _⟩ | ⟨e, _⟩ | ⟨e, _⟩
  · exact DoW_4 A0 n0 c0 A1 n1 c1 A2 n2 c2 x k a b v g t args Ar nr cr hr ht w h e hm
  · exact DoW_5 A0 n0 c0 A1 n1 c1 A2 n2 c2 x k a b v g t args Ar nr cr hr ht w h e hm
  · rcases e with e | e | e | e
    · exact DoW_0 A0 n0 c0 A1 n1 c1 A2 n2 c2 x k a b v g t args Ar nr cr hr ht w h e hm
    · exact DoW_1 A0 n0 c0 A1 n1 c1 A2 n2 c2 x k a b v g t args Ar nr cr hr ht w h e hm
    · exact DoW_2 A0 n0 c0 A1 n1 c1 A2 n2 c2 x k a b v g t args Ar nr cr hr ht w h e hm
    · exact DoW_3 A0 n0 c0 A1 n1 c1 A2 n2 c2 x k a b v g t args Ar nr cr hr ht w h e hm
end Go.Proofs.Ytflenopenifofaa
