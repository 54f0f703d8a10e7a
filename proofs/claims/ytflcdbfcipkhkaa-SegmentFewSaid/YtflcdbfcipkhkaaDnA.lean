import Derived.Test.YtflcdbfcipkhkaaAvL3
import Derived.Test.YtflcdbfcipkhkaaProg
import Derived.KernelRfl

set_option maxRecDepth 100000
namespace Go.Proofs.Ytflcdbfcipkhkaa
open Go.Av
/-- bilander/bilanderref04.SameAll -/
def ac49 : AC :=
 (.seq
  (.reg [⟨(some 4), none, .mv (.c (.bool false))⟩])
  (.seq
   (.seq
    (.reg [⟨(some 6), none, .mv (.t 0)⟩,
      ⟨(some 7), none, .len false (.t 6)⟩,
      ⟨(some 8), none, .mv (.t 1)⟩,
      ⟨(some 9), none, .len false (.t 8)⟩,
      ⟨(some 10), none, .bin .neq (.t 7) (.t 9)⟩])
    (.cond (.t 10)
     (.seq
      (.reg [⟨(some 4), none, .mv (.c (.bool false))⟩])
      .ret)
     .skip))
   (.seq
    (.seq
     (.reg [⟨(some 5), none, .mv (.c (.int .i64 0))⟩])
     (.block 0
      (.loop
       (.seq
        (.seq
         (.reg [⟨(some 11), none, .mv (.t 5)⟩,
           ⟨(some 12), none, .mv (.t 0)⟩,
           ⟨(some 13), none, .len false (.t 12)⟩,
           ⟨(some 14), none, .bin .lss (.t 11) (.t 13)⟩])
         (.cond (.t 14)
          .skip
          (.exit 0)))
        (.seq
         (.block 1
          (.seq
           (.dreg [] [⟨(some 17), none, .mv (.t 0)⟩,
             ⟨(some 18), none, .mv (.t 5)⟩,
             ⟨(some 19), none, .iaddr 6 (.t 17) (.t 18)⟩,
             ⟨(some 20), none, .load (some 6) (.t 19)⟩,
             ⟨(some 21), none, .mv (.t 1)⟩,
             ⟨(some 22), none, .mv (.t 5)⟩,
             ⟨(some 23), none, .iaddr 6 (.t 21) (.t 22)⟩,
             ⟨(some 24), none, .load (some 6) (.t 23)⟩,
             ⟨(some 25), none, .call 89 [(.t 20), (.t 24)]⟩,
             ⟨(some 26), none, .una .not (.t 25)⟩])
           (.cond (.t 26)
            (.seq
             (.reg [⟨(some 4), none, .mv (.c (.bool false))⟩])
             .ret)
            .skip)))
         (.reg [⟨(some 15), none, .take 5⟩,
           ⟨(some 16), none, .bin .add (.t 15) (.c (.int .i64 1))⟩,
           ⟨(some 5), none, .take 16⟩]))))))
    (.seq
     (.reg [⟨(some 4), none, .mv (.c (.bool true))⟩])
     .ret))))
def ar49 : List AR := [.t 4]
theorem comp49 : Try.f49.body.bind (comp Try.prog 27) = some ac49 := by kernel_rfl
theorem cres49 : compRes Try.prog Try.f49.results.toList = some ar49 := by kernel_rfl
/-- bilander/bilanderref04.LightAll -/
def ac90 : AC :=
 (.seq
  (.reg [⟨(some 4), none, .mv (.c (.bool false))⟩])
  (.seq
   (.seq
    (.reg [⟨(some 6), none, .mv (.t 0)⟩,
      ⟨(some 7), none, .len false (.t 6)⟩,
      ⟨(some 8), none, .mv (.t 1)⟩,
      ⟨(some 9), none, .bin .gtr (.t 7) (.t 8)⟩])
    (.cond (.t 9)
     (.seq
      (.reg [⟨(some 4), none, .mv (.c (.bool false))⟩])
      .ret)
     .skip))
   (.seq
    (.seq
     (.reg [⟨(some 5), none, .mv (.c (.int .i64 0))⟩])
     (.block 0
      (.loop
       (.seq
        (.seq
         (.reg [⟨(some 10), none, .mv (.t 5)⟩,
           ⟨(some 11), none, .mv (.t 0)⟩,
           ⟨(some 12), none, .len false (.t 11)⟩,
           ⟨(some 13), none, .bin .lss (.t 10) (.t 12)⟩])
         (.cond (.t 13)
          .skip
          (.exit 0)))
        (.seq
         (.block 1
          (.seq
           (.reg [⟨(some 16), none, .mv (.t 0)⟩,
             ⟨(some 17), none, .mv (.t 5)⟩,
             ⟨(some 18), none, .iaddr 6 (.t 16) (.t 17)⟩,
             ⟨(some 19), none, .load (some 6) (.t 18)⟩,
             ⟨(some 20), none, .call 64 [(.t 19)]⟩,
             ⟨(some 21), none, .una .not (.t 20)⟩])
           (.cond (.t 21)
            (.seq
             (.reg [⟨(some 4), none, .mv (.c (.bool false))⟩])
             .ret)
            .skip)))
         (.reg [⟨(some 14), none, .take 5⟩,
           ⟨(some 15), none, .bin .add (.t 14) (.c (.int .i64 1))⟩,
           ⟨(some 5), none, .take 15⟩]))))))
    (.seq
     (.reg [⟨(some 4), none, .mv (.c (.bool true))⟩])
     .ret))))
def ar90 : List AR := [.t 4]
theorem comp90 : Try.f90.body.bind (comp Try.prog 22) = some ac90 := by kernel_rfl
theorem cres90 : compRes Try.prog Try.f90.results.toList = some ar90 := by kernel_rfl
/-- slices.EqualFunc[[]bilander/api.Batch,[]bilander/api.Batch,bilander/api.Batch,bilander/api.Batch] -/
def ac94 : AC :=
 (.seq
  (.reg [⟨(some 6), none, .mv (.c (.bool false))⟩])
  (.seq
   (.seq
    (.reg [⟨(some 10), none, .mv (.t 0)⟩,
      ⟨(some 11), none, .len false (.t 10)⟩,
      ⟨(some 12), none, .mv (.t 1)⟩,
      ⟨(some 13), none, .len false (.t 12)⟩,
      ⟨(some 14), none, .bin .neq (.t 11) (.t 13)⟩])
    (.cond (.t 14)
     (.seq
      (.reg [⟨(some 6), none, .mv (.c (.bool false))⟩])
      .ret)
     .skip))
   (.seq
    (.seq
     (.reg [⟨(some 15), none, .mv (.t 0)⟩,
       ⟨(some 16), none, .len false (.t 15)⟩,
       ⟨(some 17), none, .mv (.c (.int .i64 0))⟩])
     (.block 0
      (.loop
       (.seq
        (.reg [⟨(some 18), none, .bin .lss (.t 17) (.t 16)⟩])
        (.seq
         (.cond (.t 18)
          .skip
          (.exit 0))
         (.seq
          (.block 1
           (.seq
            (.reg [⟨(some 19), none, .take 17⟩,
              ⟨(some 20), none, .iaddr 6 (.t 15) (.t 17)⟩,
              ⟨(some 21), none, .load (some 6) (.t 20)⟩,
              ⟨(some 8), none, .alloc [(.int .i64 0), (.int .i64 0), (.int .i64 0), (.int .i64 0), (.int .i64 0), .nils]⟩,
              ⟨(some 7), none, .take 19⟩,
              ⟨none, none, .store 6 (.t 8) (.t 21)⟩])
            (.seq
             (.reg [⟨(some 22), none, .mv (.t 1)⟩,
               ⟨(some 23), none, .mv (.t 7)⟩,
               ⟨(some 24), none, .iaddr 6 (.t 22) (.t 23)⟩,
               ⟨(some 25), none, .load (some 6) (.t 24)⟩,
               ⟨(some 9), none, .alloc [(.int .i64 0), (.int .i64 0), (.int .i64 0), (.int .i64 0), (.int .i64 0), .nils]⟩,
               ⟨none, none, .store 6 (.t 9) (.t 25)⟩])
             (.seq
              (.reg [⟨(some 26), none, .mv (.t 2)⟩,
                ⟨(some 27), none, .load (some 6) (.t 8)⟩,
                ⟨(some 28), none, .load (some 6) (.t 9)⟩,
                ⟨(some 29), none, .callV (.t 26) [(.t 27), (.t 28)]⟩,
                ⟨(some 30), none, .una .not (.t 29)⟩])
              (.cond (.t 30)
               (.seq
                (.reg [⟨(some 6), none, .mv (.c (.bool false))⟩])
                .ret)
               .skip)))))
          (.reg [⟨(some 31), none, .bin .add (.t 17) (.c (.int .i64 1))⟩,
            ⟨(some 17), none, .take 31⟩])))))))
    (.seq
     (.reg [⟨(some 6), none, .mv (.c (.bool true))⟩])
     .ret))))
def ar94 : List AR := [.t 6]
theorem comp94 : Try.f94.body.bind (comp Try.prog 32) = some ac94 := by kernel_rfl
theorem cres94 : compRes Try.prog Try.f94.results.toList = some ar94 := by kernel_rfl
end Go.Proofs.Ytflcdbfcipkhkaa
