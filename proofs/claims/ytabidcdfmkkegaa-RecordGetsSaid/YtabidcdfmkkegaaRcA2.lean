import Derived.Test.YtabidcdfmkkegaaAvL3
import Derived.Test.YtabidcdfmkkegaaProg
import Derived.KernelRfl

set_option maxRecDepth 100000
namespace Go.Proofs.Ytabidcdfmkkegaa
open Go.Av
/-- bilander/bilanderref01.Text -/
def ac38 : AC :=
 (.seq
  (.reg [⟨(some 2), none, .mv (.c .nils)⟩])
  (.seq
   (.reg [⟨(some 3), none, .mv (.t 0)⟩,
     ⟨(some 4), none, .len true (.t 3)⟩,
     ⟨(some 5), none, .call 19 [(.t 4)]⟩,
     ⟨(some 6), none, .mv (.t 0)⟩,
     ⟨(some 7), none, .appS 5 (.t 6)⟩,
     ⟨(some 2), none, .take 7⟩])
   .ret))
def ar38 : List AR := [.t 2]
theorem comp38 : Try.f38.body.bind (comp Try.prog 8) = some ac38 := by kernel_rfl
theorem cres38 : compRes Try.prog Try.f38.results.toList = some ar38 := by kernel_rfl
end Go.Proofs.Ytabidcdfmkkegaa
