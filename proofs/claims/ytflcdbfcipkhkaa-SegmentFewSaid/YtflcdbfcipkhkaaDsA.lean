import Derived.Test.YtflcdbfcipkhkaaAvL3
import Derived.Test.YtflcdbfcipkhkaaProg
import Derived.KernelRfl

set_option maxRecDepth 100000
namespace Go.Proofs.Ytflcdbfcipkhkaa
open Go.Av
/-- bilander/bilanderlaw14.light -/
def ac46 : AC :=
 (.seq
  (.reg [⟨(some 1), none, .box 2 (.t 0)⟩,
    ⟨(some 2), none, .mv (.c (.bool false))⟩])
  (.seq
   (.reg [⟨(some 3), none, .faddr (.t 1) 1⟩,
     ⟨(some 4), none, .load none (.t 3)⟩,
     ⟨(some 5), none, .call 90 [(.t 4), (.c (.int .i64 20))]⟩,
     ⟨(some 2), none, .take 5⟩])
   .ret))
def ar46 : List AR := [.t 2]
theorem comp46 : Try.f46.body.bind (comp Try.prog 6) = some ac46 := by kernel_rfl
theorem cres46 : compRes Try.prog Try.f46.results.toList = some ar46 := by kernel_rfl
/-- bilander/bilanderref14.Check -/
def ac47 : AC :=
 (.seq
  (.reg [⟨(some 1), none, .box 2 (.t 0)⟩,
    ⟨(some 2), none, .mv (.c (.int .i64 0))⟩])
  (.seq
   (.seq
    (.reg [⟨(some 5), none, .faddr (.t 1) 0⟩,
      ⟨(some 6), none, .load none (.t 5)⟩,
      ⟨(some 7), none, .bin .lss (.t 6) (.c (.int .i64 0))⟩,
      ⟨(some 8), none, .take 7⟩,
      ⟨(some 9), (some (8, false)), .faddr (.t 1) 0⟩,
      ⟨(some 10), (some (8, false)), .load none (.t 9)⟩,
      ⟨(some 11), (some (8, false)), .bin .gtr (.t 10) (.c (.int .i64 4611686018427387903))⟩,
      ⟨(some 12), none, .pick (.t 8) (.c (.bool true)) (.t 11)⟩])
    (.cond (.t 12)
     (.seq
      (.reg [⟨(some 2), none, .mv (.c (.int .i64 11))⟩])
      .ret)
     .skip))
   (.seq
    (.seq
     (.reg [⟨(some 3), none, .mv (.c (.int .i64 0))⟩])
     (.block 0
      (.loop
       (.seq
        (.seq
         (.reg [⟨(some 13), none, .mv (.t 3)⟩,
           ⟨(some 14), none, .faddr (.t 1) 1⟩,
           ⟨(some 15), none, .load none (.t 14)⟩,
           ⟨(some 16), none, .len false (.t 15)⟩,
           ⟨(some 17), none, .bin .lss (.t 13) (.t 16)⟩])
         (.cond (.t 17)
          .skip
          (.exit 0)))
        (.seq
         (.block 1
          (.seq
           (.reg [⟨(some 20), none, .faddr (.t 1) 1⟩,
             ⟨(some 21), none, .load none (.t 20)⟩,
             ⟨(some 22), none, .mv (.t 3)⟩,
             ⟨(some 23), none, .iaddr 6 (.t 21) (.t 22)⟩,
             ⟨(some 24), none, .load (some 6) (.t 23)⟩,
             ⟨(some 25), none, .call 107 [(.t 24)]⟩,
             ⟨(some 4), none, .take 25⟩])
           (.block 2
            (.seq
             (.reg [⟨(some 27), none, .mv (.t 4)⟩,
               ⟨(some 28), none, .bin .neq (.t 27) (.c (.int .i64 0))⟩,
               ⟨(some 26), none, .take 28⟩])
             (.cond (.t 26)
              (.seq
               (.reg [⟨(some 29), none, .take 4⟩,
                 ⟨(some 2), none, .take 29⟩])
               .ret)
              (.seq
               (.dreg [] [⟨(some 31), none, .faddr (.t 1) 1⟩,
                 ⟨(some 32), none, .load none (.t 31)⟩,
                 ⟨(some 33), none, .mv (.t 3)⟩,
                 ⟨(some 34), none, .iaddr 6 (.t 32) (.t 33)⟩,
                 ⟨(some 35), none, .faddr (.t 34) 0⟩,
                 ⟨(some 36), none, .load none (.t 35)⟩,
                 ⟨(some 37), none, .faddr (.t 1) 0⟩,
                 ⟨(some 38), none, .load none (.t 37)⟩,
                 ⟨(some 39), none, .bin .lss (.t 36) (.t 38)⟩,
                 ⟨(some 40), none, .mv (.t 39)⟩,
                 ⟨(some 41), (some (40, false)), .faddr (.t 1) 1⟩,
                 ⟨(some 42), (some (40, false)), .load none (.t 41)⟩,
                 ⟨(some 43), (some (40, false)), .mv (.t 3)⟩,
                 ⟨(some 44), (some (40, false)), .iaddr 6 (.t 42) (.t 43)⟩,
                 ⟨(some 45), (some (40, false)), .faddr (.t 44) 0⟩,
                 ⟨(some 46), (some (40, false)), .load none (.t 45)⟩,
                 ⟨(some 47), (some (40, false)), .faddr (.t 1) 0⟩,
                 ⟨(some 48), (some (40, false)), .load none (.t 47)⟩,
                 ⟨(some 49), (some (40, false)), .faddr (.t 1) 1⟩,
                 ⟨(some 50), (some (40, false)), .load none (.t 49)⟩,
                 ⟨(some 51), (some (40, false)), .mv (.t 3)⟩,
                 ⟨(some 52), (some (40, false)), .slc false 6 (.t 50) none (some (.t 51))⟩,
                 ⟨(some 53), (some (40, false)), .build [(.int .i64 0), .nils] [(0, 1, (.t 48)), (1, 1, (.t 52))]⟩,
                 ⟨(some 54), (some (40, false)), .call 108 [(.t 53)]⟩,
                 ⟨(some 55), (some (40, false)), .bin .lss (.t 46) (.t 54)⟩,
                 ⟨(some 56), none, .pick (.t 40) (.c (.bool true)) (.t 55)⟩,
                 ⟨(some 30), none, .take 56⟩])
               (.cond (.t 30)
                (.seq
                 (.reg [⟨(some 2), none, .mv (.c (.int .i64 16))⟩])
                 .ret)
                .skip)))))))
         (.reg [⟨(some 18), none, .take 3⟩,
           ⟨(some 19), none, .bin .add (.t 18) (.c (.int .i64 1))⟩,
           ⟨(some 3), none, .take 19⟩]))))))
    (.seq
     (.reg [⟨(some 2), none, .mv (.c (.int .i64 0))⟩])
     .ret))))
def ar47 : List AR := [.t 2]
theorem comp47 : Try.f47.body.bind (comp Try.prog 57) = some ac47 := by kernel_rfl
theorem cres47 : compRes Try.prog Try.f47.results.toList = some ar47 := by kernel_rfl
/-- bilander/segment.Fetch -/
def ac50 : AC :=
 (.seq
  (.reg [⟨(some 3), none, .box 2 (.t 0)⟩,
    ⟨(some 6), none, .mv (.c .nils)⟩])
  (.seq
   (.reg [⟨(some 7), none, .mv (.c .nils)⟩])
   (.seq
    (.seq
     (.reg [⟨(some 10), none, .faddr (.t 3) 1⟩,
       ⟨(some 11), none, .load none (.t 10)⟩,
       ⟨(some 12), none, .len false (.t 11)⟩,
       ⟨(some 13), none, .mv (.c (.int .i64 0))⟩])
     (.block 0
      (.loop
       (.seq
        (.reg [⟨(some 14), none, .bin .lss (.t 13) (.t 12)⟩])
        (.seq
         (.cond (.t 14)
          .skip
          (.exit 0))
         (.seq
          (.block 1
           (.seq
            (.reg [⟨(some 15), none, .iaddr 6 (.t 11) (.t 13)⟩,
              ⟨(some 16), none, .load (some 6) (.t 15)⟩,
              ⟨(some 9), none, .alloc [(.int .i64 0), (.int .i64 0), (.int .i64 0), (.int .i64 0), (.int .i64 0), .nils]⟩,
              ⟨none, none, .store 6 (.t 9) (.t 16)⟩])
            (.seq
             (.seq
              (.reg [⟨(some 17), none, .mv (.t 7)⟩,
                ⟨(some 18), none, .len false (.t 17)⟩,
                ⟨(some 19), none, .mv (.t 2)⟩,
                ⟨(some 20), none, .bin .geq (.t 18) (.t 19)⟩])
              (.cond (.t 20)
               (.exit 0)
               .skip))
             (.seq
              (.seq
               (.reg [⟨(some 21), none, .load (some 6) (.t 9)⟩,
                 ⟨(some 22), none, .call 70 [(.t 21)]⟩,
                 ⟨(some 23), none, .mv (.t 1)⟩,
                 ⟨(some 24), none, .bin .leq (.t 22) (.t 23)⟩])
               (.cond (.t 24)
                (.exit 1)
                .skip))
              (.seq
               (.reg [⟨(some 25), none, .load (some 6) (.t 9)⟩,
                 ⟨(some 26), none, .mv (.t 1)⟩,
                 ⟨(some 27), none, .call 110 [(.t 25), (.t 26)]⟩,
                 ⟨(some 28), none, .faddr (.t 9) 5⟩,
                 ⟨none, none, .store 1 (.t 28) (.t 27)⟩])
               (.reg [⟨(some 29), none, .take 7⟩,
                 ⟨(some 30), none, .load (some 6) (.t 9)⟩,
                 ⟨(some 31), none, .bsl 6 1 [(.int .i64 0), (.int .i64 0), (.int .i64 0), (.int .i64 0), (.int .i64 0), .nils] [(0, (.t 30))]⟩,
                 ⟨(some 32), none, .app 6 64 29 (.t 31)⟩,
                 ⟨(some 7), none, .take 32⟩]))))))
          (.reg [⟨(some 33), none, .bin .add (.t 13) (.c (.int .i64 1))⟩,
            ⟨(some 13), none, .take 33⟩])))))))
    (.seq
     (.reg [⟨(some 34), none, .take 7⟩,
       ⟨(some 6), none, .take 34⟩])
     .ret))))
def ar50 : List AR := [.t 6]
theorem comp50 : Try.f50.body.bind (comp Try.prog 35) = some ac50 := by kernel_rfl
theorem cres50 : compRes Try.prog Try.f50.results.toList = some ar50 := by kernel_rfl
/-- bilander/bilanderref14.Fetch -/
def ac51 : AC :=
 (.seq
  (.reg [⟨(some 3), none, .box 2 (.t 0)⟩,
    ⟨(some 6), none, .mv (.c .nils)⟩])
  (.seq
   (.reg [⟨(some 7), none, .mv (.c .nils)⟩])
   (.seq
    (.seq
     (.reg [⟨(some 8), none, .mv (.c (.int .i64 0))⟩])
     (.block 0
      (.loop
       (.seq
        (.seq
         (.reg [⟨(some 10), none, .mv (.t 8)⟩,
           ⟨(some 11), none, .faddr (.t 3) 1⟩,
           ⟨(some 12), none, .load none (.t 11)⟩,
           ⟨(some 13), none, .len false (.t 12)⟩,
           ⟨(some 14), none, .bin .lss (.t 10) (.t 13)⟩,
           ⟨(some 15), none, .take 14⟩,
           ⟨(some 16), (some (15, true)), .mv (.t 7)⟩,
           ⟨(some 17), (some (15, true)), .len false (.t 16)⟩,
           ⟨(some 18), (some (15, true)), .mv (.t 2)⟩,
           ⟨(some 19), (some (15, true)), .bin .lss (.t 17) (.t 18)⟩,
           ⟨(some 20), none, .pick (.t 15) (.t 19) (.c (.bool false))⟩])
         (.cond (.t 20)
          .skip
          (.exit 0)))
        (.seq
         (.block 1
          (.seq
           (.reg [⟨(some 23), none, .faddr (.t 3) 1⟩,
             ⟨(some 24), none, .load none (.t 23)⟩,
             ⟨(some 25), none, .mv (.t 8)⟩,
             ⟨(some 26), none, .iaddr 6 (.t 24) (.t 25)⟩,
             ⟨(some 27), none, .load (some 6) (.t 26)⟩,
             ⟨(some 9), none, .alloc [(.int .i64 0), (.int .i64 0), (.int .i64 0), (.int .i64 0), (.int .i64 0), .nils]⟩,
             ⟨none, none, .store 6 (.t 9) (.t 27)⟩])
           (.seq
            (.reg [⟨(some 28), none, .load (some 6) (.t 9)⟩,
              ⟨(some 29), none, .call 111 [(.t 28)]⟩,
              ⟨(some 30), none, .mv (.t 1)⟩,
              ⟨(some 31), none, .bin .gtr (.t 29) (.t 30)⟩])
            (.cond (.t 31)
             (.seq
              (.reg [⟨(some 32), none, .load (some 6) (.t 9)⟩,
                ⟨(some 33), none, .mv (.t 1)⟩,
                ⟨(some 34), none, .call 112 [(.t 32), (.t 33)]⟩,
                ⟨(some 35), none, .faddr (.t 9) 5⟩,
                ⟨none, none, .store 1 (.t 35) (.t 34)⟩])
              (.reg [⟨(some 36), none, .take 7⟩,
                ⟨(some 37), none, .load (some 6) (.t 9)⟩,
                ⟨(some 38), none, .bsl 6 1 [(.int .i64 0), (.int .i64 0), (.int .i64 0), (.int .i64 0), (.int .i64 0), .nils] [(0, (.t 37))]⟩,
                ⟨(some 39), none, .app 6 64 36 (.t 38)⟩,
                ⟨(some 7), none, .take 39⟩]))
             .skip))))
         (.reg [⟨(some 21), none, .take 8⟩,
           ⟨(some 22), none, .bin .add (.t 21) (.c (.int .i64 1))⟩,
           ⟨(some 8), none, .take 22⟩]))))))
    (.seq
     (.reg [⟨(some 40), none, .take 7⟩,
       ⟨(some 6), none, .take 40⟩])
     .ret))))
def ar51 : List AR := [.t 6]
theorem comp51 : Try.f51.body.bind (comp Try.prog 41) = some ac51 := by kernel_rfl
theorem cres51 : compRes Try.prog Try.f51.results.toList = some ar51 := by kernel_rfl
/-- bilander/segment.ByTime -/
def ac52 : AC :=
 (.seq
  (.reg [⟨(some 2), none, .box 2 (.t 0)⟩,
    ⟨(some 4), none, .mv (.c (.int .i64 0))⟩,
    ⟨(some 5), none, .mv (.c (.bool false))⟩])
  (.seq
   (.seq
    (.reg [⟨(some 10), none, .faddr (.t 2) 1⟩,
      ⟨(some 11), none, .load none (.t 10)⟩,
      ⟨(some 12), none, .len false (.t 11)⟩,
      ⟨(some 13), none, .mv (.c (.int .i64 0))⟩])
    (.block 0
     (.loop
      (.seq
       (.reg [⟨(some 14), none, .bin .lss (.t 13) (.t 12)⟩])
       (.seq
        (.cond (.t 14)
         .skip
         (.exit 0))
        (.seq
         (.block 1
          (.seq
           (.reg [⟨(some 15), none, .iaddr 6 (.t 11) (.t 13)⟩,
             ⟨(some 16), none, .load (some 6) (.t 15)⟩,
             ⟨(some 7), none, .alloc [(.int .i64 0), (.int .i64 0), (.int .i64 0), (.int .i64 0), (.int .i64 0), .nils]⟩,
             ⟨none, none, .store 6 (.t 7) (.t 16)⟩])
           (.seq
            (.reg [⟨(some 17), none, .faddr (.t 7) 5⟩,
              ⟨(some 18), none, .load none (.t 17)⟩,
              ⟨(some 19), none, .len false (.t 18)⟩,
              ⟨(some 20), none, .mv (.c (.int .i64 0))⟩])
            (.block 2
             (.loop
              (.seq
               (.reg [⟨(some 21), none, .bin .lss (.t 20) (.t 19)⟩])
               (.seq
                (.cond (.t 21)
                 .skip
                 (.exit 2))
                (.seq
                 (.block 3
                  (.seq
                   (.reg [⟨(some 22), none, .iaddr 6 (.t 18) (.t 20)⟩,
                     ⟨(some 23), none, .load (some 6) (.t 22)⟩,
                     ⟨(some 9), none, .alloc [(.int .i64 0), (.int .i64 0), (.bool false), (.str (ByteArray.mk #[])), (.bool false), (.str (ByteArray.mk #[]))]⟩,
                     ⟨none, none, .store 6 (.t 9) (.t 23)⟩])
                   (.seq
                    (.reg [⟨(some 24), none, .faddr (.t 9) 1⟩,
                      ⟨(some 25), none, .load none (.t 24)⟩,
                      ⟨(some 26), none, .mv (.t 1)⟩,
                      ⟨(some 27), none, .bin .geq (.t 25) (.t 26)⟩])
                    (.cond (.t 27)
                     (.seq
                      (.reg [⟨(some 28), none, .faddr (.t 7) 0⟩,
                        ⟨(some 29), none, .load none (.t 28)⟩,
                        ⟨(some 30), none, .faddr (.t 9) 0⟩,
                        ⟨(some 31), none, .load none (.t 30)⟩,
                        ⟨(some 32), none, .bin .add (.t 29) (.t 31)⟩,
                        ⟨(some 4), none, .take 32⟩,
                        ⟨(some 5), none, .mv (.c (.bool true))⟩])
                      .ret)
                     .skip))))
                 (.reg [⟨(some 33), none, .bin .add (.t 20) (.c (.int .i64 1))⟩,
                   ⟨(some 20), none, .take 33⟩])))))))))
         (.reg [⟨(some 34), none, .bin .add (.t 13) (.c (.int .i64 1))⟩,
           ⟨(some 13), none, .take 34⟩])))))))
   (.seq
    (.reg [⟨(some 4), none, .mv (.c (.int .i64 0))⟩,
      ⟨(some 5), none, .mv (.c (.bool false))⟩])
    .ret)))
def ar52 : List AR := [.t 4, .t 5]
theorem comp52 : Try.f52.body.bind (comp Try.prog 35) = some ac52 := by kernel_rfl
theorem cres52 : compRes Try.prog Try.f52.results.toList = some ar52 := by kernel_rfl
/-- bilander/bilanderref14.ByTime -/
def ac53 : AC :=
 (.seq
  (.reg [⟨(some 2), none, .box 2 (.t 0)⟩,
    ⟨(some 4), none, .mv (.c (.int .i64 0))⟩,
    ⟨(some 5), none, .mv (.c (.bool false))⟩])
  (.seq
   (.reg [⟨(some 6), none, .mv (.c (.int .i64 0))⟩,
     ⟨(some 7), none, .mv (.c (.bool false))⟩])
   (.seq
    (.seq
     (.reg [⟨(some 8), none, .mv (.c (.int .i64 0))⟩])
     (.block 0
      (.loop
       (.seq
        (.seq
         (.reg [⟨(some 12), none, .mv (.t 8)⟩,
           ⟨(some 13), none, .faddr (.t 2) 1⟩,
           ⟨(some 14), none, .load none (.t 13)⟩,
           ⟨(some 15), none, .len false (.t 14)⟩,
           ⟨(some 16), none, .bin .lss (.t 12) (.t 15)⟩])
         (.cond (.t 16)
          .skip
          (.exit 0)))
        (.seq
         (.block 1
          (.seq
           (.reg [⟨(some 9), none, .mv (.c (.int .i64 0))⟩])
           (.block 2
            (.loop
             (.seq
              (.seq
               (.reg [⟨(some 19), none, .mv (.t 9)⟩,
                 ⟨(some 20), none, .faddr (.t 2) 1⟩,
                 ⟨(some 21), none, .load none (.t 20)⟩,
                 ⟨(some 22), none, .mv (.t 8)⟩,
                 ⟨(some 23), none, .iaddr 6 (.t 21) (.t 22)⟩,
                 ⟨(some 24), none, .faddr (.t 23) 5⟩,
                 ⟨(some 25), none, .load none (.t 24)⟩,
                 ⟨(some 26), none, .len false (.t 25)⟩,
                 ⟨(some 27), none, .bin .lss (.t 19) (.t 26)⟩])
               (.cond (.t 27)
                .skip
                (.exit 2)))
              (.seq
               (.block 3
                (.seq
                 (.reg [⟨(some 30), none, .faddr (.t 2) 1⟩,
                   ⟨(some 31), none, .load none (.t 30)⟩,
                   ⟨(some 32), none, .mv (.t 8)⟩,
                   ⟨(some 33), none, .iaddr 6 (.t 31) (.t 32)⟩,
                   ⟨(some 34), none, .faddr (.t 33) 5⟩,
                   ⟨(some 35), none, .load none (.t 34)⟩,
                   ⟨(some 36), none, .mv (.t 9)⟩,
                   ⟨(some 37), none, .iaddr 6 (.t 35) (.t 36)⟩,
                   ⟨(some 38), none, .load (some 6) (.t 37)⟩,
                   ⟨(some 10), none, .alloc [(.int .i64 0), (.int .i64 0), (.bool false), (.str (ByteArray.mk #[])), (.bool false), (.str (ByteArray.mk #[]))]⟩,
                   ⟨none, none, .store 6 (.t 10) (.t 38)⟩])
                 (.seq
                  (.dreg [] [⟨(some 39), none, .faddr (.t 2) 1⟩,
                    ⟨(some 40), none, .load none (.t 39)⟩,
                    ⟨(some 41), none, .mv (.t 8)⟩,
                    ⟨(some 42), none, .iaddr 6 (.t 40) (.t 41)⟩,
                    ⟨(some 43), none, .faddr (.t 42) 0⟩,
                    ⟨(some 44), none, .load none (.t 43)⟩,
                    ⟨(some 45), none, .faddr (.t 10) 0⟩,
                    ⟨(some 46), none, .load none (.t 45)⟩,
                    ⟨(some 47), none, .bin .add (.t 44) (.t 46)⟩,
                    ⟨(some 11), none, .take 47⟩])
                  (.seq
                   (.reg [⟨(some 48), none, .faddr (.t 10) 1⟩,
                     ⟨(some 49), none, .load none (.t 48)⟩,
                     ⟨(some 50), none, .mv (.t 1)⟩,
                     ⟨(some 51), none, .bin .geq (.t 49) (.t 50)⟩,
                     ⟨(some 52), none, .take 51⟩,
                     ⟨(some 53), (some (52, true)), .mv (.t 7)⟩,
                     ⟨(some 54), (some (52, true)), .una .not (.t 53)⟩,
                     ⟨(some 55), (some (52, true)), .take 54⟩,
                     ⟨(some 56), (some (55, false)), .mv (.t 11)⟩,
                     ⟨(some 57), (some (55, false)), .mv (.t 6)⟩,
                     ⟨(some 58), (some (55, false)), .bin .lss (.t 56) (.t 57)⟩,
                     ⟨(some 59), (some (52, true)), .pick (.t 55) (.c (.bool true)) (.t 58)⟩,
                     ⟨(some 60), none, .pick (.t 52) (.t 59) (.c (.bool false))⟩])
                   (.cond (.t 60)
                    (.reg [⟨(some 61), none, .take 11⟩,
                      ⟨(some 6), none, .take 61⟩,
                      ⟨(some 7), none, .mv (.c (.bool true))⟩])
                    .skip)))))
               (.reg [⟨(some 28), none, .take 9⟩,
                 ⟨(some 29), none, .bin .add (.t 28) (.c (.int .i64 1))⟩,
                 ⟨(some 9), none, .take 29⟩])))))))
         (.reg [⟨(some 17), none, .take 8⟩,
           ⟨(some 18), none, .bin .add (.t 17) (.c (.int .i64 1))⟩,
           ⟨(some 8), none, .take 18⟩]))))))
    (.seq
     (.reg [⟨(some 62), none, .take 6⟩,
       ⟨(some 63), none, .take 7⟩,
       ⟨(some 4), none, .take 62⟩,
       ⟨(some 5), none, .take 63⟩])
     .ret))))
def ar53 : List AR := [.t 4, .t 5]
theorem comp53 : Try.f53.body.bind (comp Try.prog 64) = some ac53 := by kernel_rfl
theorem cres53 : compRes Try.prog Try.f53.results.toList = some ar53 := by kernel_rfl
/-- bilander/bilanderref14.Keys -/
def ac55 : AC :=
 (.seq
  (.reg [⟨(some 1), none, .box 2 (.t 0)⟩,
    ⟨(some 2), none, .mv (.c .nils)⟩])
  (.seq
   (.reg [⟨(some 3), none, .mv (.c .nils)⟩])
   (.seq
    (.seq
     (.reg [⟨(some 4), none, .mv (.c (.int .i64 0))⟩])
     (.block 0
      (.loop
       (.seq
        (.seq
         (.reg [⟨(some 9), none, .mv (.t 4)⟩,
           ⟨(some 10), none, .faddr (.t 1) 1⟩,
           ⟨(some 11), none, .load none (.t 10)⟩,
           ⟨(some 12), none, .len false (.t 11)⟩,
           ⟨(some 13), none, .bin .lss (.t 9) (.t 12)⟩])
         (.cond (.t 13)
          .skip
          (.exit 0)))
        (.seq
         (.block 1
          (.seq
           (.reg [⟨(some 5), none, .mv (.c (.int .i64 0))⟩])
           (.block 2
            (.loop
             (.seq
              (.seq
               (.reg [⟨(some 16), none, .mv (.t 5)⟩,
                 ⟨(some 17), none, .faddr (.t 1) 1⟩,
                 ⟨(some 18), none, .load none (.t 17)⟩,
                 ⟨(some 19), none, .mv (.t 4)⟩,
                 ⟨(some 20), none, .iaddr 6 (.t 18) (.t 19)⟩,
                 ⟨(some 21), none, .faddr (.t 20) 5⟩,
                 ⟨(some 22), none, .load none (.t 21)⟩,
                 ⟨(some 23), none, .len false (.t 22)⟩,
                 ⟨(some 24), none, .bin .lss (.t 16) (.t 23)⟩])
               (.cond (.t 24)
                .skip
                (.exit 2)))
              (.seq
               (.block 3
                (.seq
                 (.reg [⟨(some 27), none, .faddr (.t 1) 1⟩,
                   ⟨(some 28), none, .load none (.t 27)⟩,
                   ⟨(some 29), none, .mv (.t 4)⟩,
                   ⟨(some 30), none, .iaddr 6 (.t 28) (.t 29)⟩,
                   ⟨(some 31), none, .faddr (.t 30) 5⟩,
                   ⟨(some 32), none, .load none (.t 31)⟩,
                   ⟨(some 33), none, .mv (.t 5)⟩,
                   ⟨(some 34), none, .iaddr 6 (.t 32) (.t 33)⟩,
                   ⟨(some 35), none, .load (some 6) (.t 34)⟩,
                   ⟨(some 6), none, .alloc [(.int .i64 0), (.int .i64 0), (.bool false), (.str (ByteArray.mk #[])), (.bool false), (.str (ByteArray.mk #[]))]⟩,
                   ⟨none, none, .store 6 (.t 6) (.t 35)⟩])
                 (.seq
                  (.reg [⟨(some 7), none, .mv (.c (.int .i64 0))⟩])
                  (.seq
                   (.block 4
                    (.loop
                     (.seq
                      (.seq
                       (.dreg [] [⟨(some 36), none, .mv (.t 7)⟩,
                         ⟨(some 37), none, .mv (.t 3)⟩,
                         ⟨(some 38), none, .len false (.t 37)⟩,
                         ⟨(some 39), none, .bin .lss (.t 36) (.t 38)⟩,
                         ⟨(some 40), none, .mv (.t 39)⟩,
                         ⟨(some 41), (some (40, true)), .mv (.t 3)⟩,
                         ⟨(some 42), (some (40, true)), .mv (.t 7)⟩,
                         ⟨(some 43), (some (40, true)), .iaddr 1 (.t 41) (.t 42)⟩,
                         ⟨(some 44), (some (40, true)), .load none (.t 43)⟩,
                         ⟨(some 45), (some (40, true)), .faddr (.t 6) 3⟩,
                         ⟨(some 46), (some (40, true)), .load none (.t 45)⟩,
                         ⟨(some 47), (some (40, true)), .bin .lss (.t 44) (.t 46)⟩,
                         ⟨(some 48), none, .pick (.t 40) (.t 47) (.c (.bool false))⟩])
                       (.cond (.t 48)
                        .skip
                        (.exit 4)))
                      (.block 5
                       (.reg [⟨(some 49), none, .take 7⟩,
                         ⟨(some 50), none, .bin .add (.t 49) (.c (.int .i64 1))⟩,
                         ⟨(some 7), none, .take 50⟩])))))
                   (.seq
                    (.seq
                     (.dreg [] [⟨(some 51), none, .faddr (.t 6) 2⟩,
                       ⟨(some 52), none, .load none (.t 51)⟩,
                       ⟨(some 53), none, .una .not (.t 52)⟩,
                       ⟨(some 54), none, .mv (.t 53)⟩,
                       ⟨(some 55), (some (54, false)), .mv (.t 7)⟩,
                       ⟨(some 56), (some (54, false)), .mv (.t 3)⟩,
                       ⟨(some 57), (some (54, false)), .len false (.t 56)⟩,
                       ⟨(some 58), (some (54, false)), .bin .lss (.t 55) (.t 57)⟩,
                       ⟨(some 59), (some (54, false)), .mv (.t 58)⟩,
                       ⟨(some 60), (some (59, true)), .mv (.t 3)⟩,
                       ⟨(some 61), (some (59, true)), .mv (.t 7)⟩,
                       ⟨(some 62), (some (59, true)), .iaddr 1 (.t 60) (.t 61)⟩,
                       ⟨(some 63), (some (59, true)), .load none (.t 62)⟩,
                       ⟨(some 64), (some (59, true)), .faddr (.t 6) 3⟩,
                       ⟨(some 65), (some (59, true)), .load none (.t 64)⟩,
                       ⟨(some 66), (some (59, true)), .bin .eql (.t 63) (.t 65)⟩,
                       ⟨(some 67), (some (54, false)), .pick (.t 59) (.t 66) (.c (.bool false))⟩,
                       ⟨(some 68), none, .pick (.t 54) (.c (.bool true)) (.t 67)⟩])
                     (.cond (.t 68)
                      (.exit 3)
                      .skip))
                    (.seq
                     (.reg [⟨(some 8), none, .mv (.c .nils)⟩])
                     (.dreg [] [⟨(some 69), none, .mv (.t 8)⟩,
                       ⟨(some 70), none, .mv (.t 3)⟩,
                       ⟨(some 71), none, .mv (.t 7)⟩,
                       ⟨(some 72), none, .slc false 1 (.t 70) none (some (.t 71))⟩,
                       ⟨(some 73), none, .app 1 16 69 (.t 72)⟩,
                       ⟨(some 74), none, .faddr (.t 6) 3⟩,
                       ⟨(some 75), none, .load none (.t 74)⟩,
                       ⟨(some 76), none, .bsl 1 1 [(.str (ByteArray.mk #[]))] [(0, (.t 75))]⟩,
                       ⟨(some 77), none, .app 1 16 73 (.t 76)⟩,
                       ⟨(some 78), none, .mv (.t 3)⟩,
                       ⟨(some 79), none, .mv (.t 7)⟩,
                       ⟨(some 80), none, .slc false 1 (.t 78) (some (.t 79)) none⟩,
                       ⟨(some 81), none, .app 1 16 77 (.t 80)⟩,
                       ⟨(some 3), none, .take 81⟩])))))))
               (.reg [⟨(some 25), none, .take 5⟩,
                 ⟨(some 26), none, .bin .add (.t 25) (.c (.int .i64 1))⟩,
                 ⟨(some 5), none, .take 26⟩])))))))
         (.reg [⟨(some 14), none, .take 4⟩,
           ⟨(some 15), none, .bin .add (.t 14) (.c (.int .i64 1))⟩,
           ⟨(some 4), none, .take 15⟩]))))))
    (.seq
     (.reg [⟨(some 82), none, .take 3⟩,
       ⟨(some 2), none, .take 82⟩])
     .ret))))
def ar55 : List AR := [.t 2]
theorem comp55 : Try.f55.body.bind (comp Try.prog 83) = some ac55 := by kernel_rfl
theorem cres55 : compRes Try.prog Try.f55.results.toList = some ar55 := by kernel_rfl
/-- bilander/segment.Newest -/
def ac56 : AC :=
 (.seq
  (.reg [⟨(some 1), none, .box 2 (.t 0)⟩,
    ⟨(some 2), none, .mv (.c (.int .i64 0))⟩])
  (.seq
   (.reg [⟨(some 3), none, .mv (.c (.int .i64 (-1)))⟩])
   (.seq
    (.seq
     (.reg [⟨(some 6), none, .faddr (.t 1) 1⟩,
       ⟨(some 7), none, .load none (.t 6)⟩,
       ⟨(some 8), none, .len false (.t 7)⟩,
       ⟨(some 9), none, .mv (.c (.int .i64 0))⟩])
     (.block 0
      (.loop
       (.seq
        (.reg [⟨(some 10), none, .bin .lss (.t 9) (.t 8)⟩])
        (.seq
         (.cond (.t 10)
          .skip
          (.exit 0))
         (.seq
          (.block 1
           (.seq
            (.reg [⟨(some 11), none, .iaddr 6 (.t 7) (.t 9)⟩,
              ⟨(some 12), none, .load (some 6) (.t 11)⟩,
              ⟨(some 5), none, .alloc [(.int .i64 0), (.int .i64 0), (.int .i64 0), (.int .i64 0), (.int .i64 0), .nils]⟩,
              ⟨none, none, .store 6 (.t 5) (.t 12)⟩])
            (.reg [⟨(some 13), none, .take 3⟩,
              ⟨(some 14), none, .load (some 6) (.t 5)⟩,
              ⟨(some 15), none, .call 115 [(.t 14)]⟩,
              ⟨(some 16), none, .minmax true (.t 13) (.t 15)⟩,
              ⟨(some 3), none, .take 16⟩])))
          (.reg [⟨(some 17), none, .bin .add (.t 9) (.c (.int .i64 1))⟩,
            ⟨(some 9), none, .take 17⟩])))))))
    (.seq
     (.reg [⟨(some 18), none, .take 3⟩,
       ⟨(some 2), none, .take 18⟩])
     .ret))))
def ar56 : List AR := [.t 2]
theorem comp56 : Try.f56.body.bind (comp Try.prog 19) = some ac56 := by kernel_rfl
theorem cres56 : compRes Try.prog Try.f56.results.toList = some ar56 := by kernel_rfl
/-- bilander/bilanderref14.Newest -/
def ac57 : AC :=
 (.seq
  (.reg [⟨(some 1), none, .box 2 (.t 0)⟩,
    ⟨(some 2), none, .mv (.c (.int .i64 0))⟩])
  (.seq
   (.reg [⟨(some 3), none, .mv (.c (.int .i64 (-1)))⟩])
   (.seq
    (.seq
     (.reg [⟨(some 4), none, .mv (.c (.int .i64 0))⟩])
     (.block 0
      (.loop
       (.seq
        (.seq
         (.reg [⟨(some 5), none, .mv (.t 4)⟩,
           ⟨(some 6), none, .faddr (.t 1) 1⟩,
           ⟨(some 7), none, .load none (.t 6)⟩,
           ⟨(some 8), none, .len false (.t 7)⟩,
           ⟨(some 9), none, .bin .lss (.t 5) (.t 8)⟩])
         (.cond (.t 9)
          .skip
          (.exit 0)))
        (.seq
         (.block 1
          (.reg [⟨(some 12), none, .take 3⟩,
            ⟨(some 13), none, .faddr (.t 1) 1⟩,
            ⟨(some 14), none, .load none (.t 13)⟩,
            ⟨(some 15), none, .mv (.t 4)⟩,
            ⟨(some 16), none, .iaddr 6 (.t 14) (.t 15)⟩,
            ⟨(some 17), none, .load (some 6) (.t 16)⟩,
            ⟨(some 18), none, .call 116 [(.t 17)]⟩,
            ⟨(some 19), none, .minmax true (.t 12) (.t 18)⟩,
            ⟨(some 3), none, .take 19⟩]))
         (.reg [⟨(some 10), none, .take 4⟩,
           ⟨(some 11), none, .bin .add (.t 10) (.c (.int .i64 1))⟩,
           ⟨(some 4), none, .take 11⟩]))))))
    (.seq
     (.reg [⟨(some 20), none, .take 3⟩,
       ⟨(some 2), none, .take 20⟩])
     .ret))))
def ar57 : List AR := [.t 2]
theorem comp57 : Try.f57.body.bind (comp Try.prog 21) = some ac57 := by kernel_rfl
theorem cres57 : compRes Try.prog Try.f57.results.toList = some ar57 := by kernel_rfl
/-- bilander/segment.Blocks -/
def ac58 : AC :=
 (.seq
  (.reg [⟨(some 1), none, .box 2 (.t 0)⟩,
    ⟨(some 2), none, .mv (.c (.int .i64 0))⟩])
  (.seq
   (.reg [⟨(some 3), none, .mv (.c (.int .i64 0))⟩])
   (.seq
    (.seq
     (.reg [⟨(some 6), none, .faddr (.t 1) 1⟩,
       ⟨(some 7), none, .load none (.t 6)⟩,
       ⟨(some 8), none, .len false (.t 7)⟩,
       ⟨(some 9), none, .mv (.c (.int .i64 0))⟩])
     (.block 0
      (.loop
       (.seq
        (.reg [⟨(some 10), none, .bin .lss (.t 9) (.t 8)⟩])
        (.seq
         (.cond (.t 10)
          .skip
          (.exit 0))
         (.seq
          (.block 1
           (.seq
            (.reg [⟨(some 11), none, .iaddr 6 (.t 7) (.t 9)⟩,
              ⟨(some 12), none, .load (some 6) (.t 11)⟩,
              ⟨(some 5), none, .alloc [(.int .i64 0), (.int .i64 0), (.int .i64 0), (.int .i64 0), (.int .i64 0), .nils]⟩,
              ⟨none, none, .store 6 (.t 5) (.t 12)⟩])
            (.reg [⟨(some 13), none, .take 3⟩,
              ⟨(some 14), none, .load (some 6) (.t 5)⟩,
              ⟨(some 15), none, .call 60 [(.t 14)]⟩,
              ⟨(some 16), none, .bin .add (.t 13) (.t 15)⟩,
              ⟨(some 3), none, .take 16⟩])))
          (.reg [⟨(some 17), none, .bin .add (.t 9) (.c (.int .i64 1))⟩,
            ⟨(some 9), none, .take 17⟩])))))))
    (.seq
     (.reg [⟨(some 18), none, .take 3⟩,
       ⟨(some 2), none, .take 18⟩])
     .ret))))
def ar58 : List AR := [.t 2]
theorem comp58 : Try.f58.body.bind (comp Try.prog 19) = some ac58 := by kernel_rfl
theorem cres58 : compRes Try.prog Try.f58.results.toList = some ar58 := by kernel_rfl
/-- bilander/bilanderref14.Blocks -/
def ac59 : AC :=
 (.seq
  (.reg [⟨(some 1), none, .box 2 (.t 0)⟩,
    ⟨(some 2), none, .mv (.c (.int .i64 0))⟩])
  (.seq
   (.reg [⟨(some 3), none, .mv (.c (.int .i64 0))⟩])
   (.seq
    (.seq
     (.reg [⟨(some 4), none, .mv (.c (.int .i64 0))⟩])
     (.block 0
      (.loop
       (.seq
        (.seq
         (.reg [⟨(some 5), none, .mv (.t 4)⟩,
           ⟨(some 6), none, .faddr (.t 1) 1⟩,
           ⟨(some 7), none, .load none (.t 6)⟩,
           ⟨(some 8), none, .len false (.t 7)⟩,
           ⟨(some 9), none, .bin .lss (.t 5) (.t 8)⟩])
         (.cond (.t 9)
          .skip
          (.exit 0)))
        (.seq
         (.block 1
          (.reg [⟨(some 12), none, .take 3⟩,
            ⟨(some 13), none, .faddr (.t 1) 1⟩,
            ⟨(some 14), none, .load none (.t 13)⟩,
            ⟨(some 15), none, .mv (.t 4)⟩,
            ⟨(some 16), none, .iaddr 6 (.t 14) (.t 15)⟩,
            ⟨(some 17), none, .load (some 6) (.t 16)⟩,
            ⟨(some 18), none, .call 61 [(.t 17)]⟩,
            ⟨(some 19), none, .bin .add (.t 12) (.t 18)⟩,
            ⟨(some 3), none, .take 19⟩]))
         (.reg [⟨(some 10), none, .take 4⟩,
           ⟨(some 11), none, .bin .add (.t 10) (.c (.int .i64 1))⟩,
           ⟨(some 4), none, .take 11⟩]))))))
    (.seq
     (.reg [⟨(some 20), none, .take 3⟩,
       ⟨(some 2), none, .take 20⟩])
     .ret))))
def ar59 : List AR := [.t 2]
theorem comp59 : Try.f59.body.bind (comp Try.prog 21) = some ac59 := by kernel_rfl
theorem cres59 : compRes Try.prog Try.f59.results.toList = some ar59 := by kernel_rfl
/-- bilander/segment.Need -/
def ac60 : AC :=
 (.seq
  (.reg [⟨(some 1), none, .box 6 (.t 0)⟩,
    ⟨(some 2), none, .mv (.c (.int .i64 0))⟩])
  (.seq
   (.reg [⟨(some 6), none, .load (some 6) (.t 1)⟩,
     ⟨(some 7), none, .call 84 [(.t 6)]⟩,
     ⟨(some 5), none, .take 7⟩,
     ⟨(some 8), none, .ext 5 0⟩,
     ⟨(some 9), none, .ext 5 1⟩,
     ⟨(some 3), none, .take 8⟩,
     ⟨(some 4), none, .take 9⟩])
   (.seq
    (.seq
     (.reg [⟨(some 10), none, .mv (.t 4)⟩,
       ⟨(some 11), none, .bin .neq (.t 10) (.c (.int .i64 0))⟩])
     (.cond (.t 11)
      (.seq
       (.reg [⟨(some 2), none, .mv (.c (.int .i64 0))⟩])
       .ret)
      .skip))
    (.seq
     (.reg [⟨(some 12), none, .mv (.t 3)⟩,
       ⟨(some 13), none, .len false (.t 12)⟩,
       ⟨(some 14), none, .call 117 [(.t 13)]⟩,
       ⟨(some 2), none, .take 14⟩])
     .ret))))
def ar60 : List AR := [.t 2]
theorem comp60 : Try.f60.body.bind (comp Try.prog 15) = some ac60 := by kernel_rfl
theorem cres60 : compRes Try.prog Try.f60.results.toList = some ar60 := by kernel_rfl
/-- bilander/bilanderref14.Need -/
def ac61 : AC :=
 (.seq
  (.reg [⟨(some 1), none, .box 6 (.t 0)⟩,
    ⟨(some 2), none, .mv (.c (.int .i64 0))⟩])
  (.seq
   (.reg [⟨(some 6), none, .load (some 6) (.t 1)⟩,
     ⟨(some 7), none, .call 87 [(.t 6)]⟩,
     ⟨(some 5), none, .take 7⟩,
     ⟨(some 8), none, .ext 5 0⟩,
     ⟨(some 9), none, .ext 5 1⟩,
     ⟨(some 3), none, .take 8⟩,
     ⟨(some 4), none, .take 9⟩])
   (.seq
    (.seq
     (.reg [⟨(some 10), none, .mv (.t 4)⟩,
       ⟨(some 11), none, .bin .neq (.t 10) (.c (.int .i64 0))⟩])
     (.cond (.t 11)
      (.seq
       (.reg [⟨(some 2), none, .mv (.c (.int .i64 0))⟩])
       .ret)
      .skip))
    (.seq
     (.reg [⟨(some 12), none, .mv (.t 3)⟩,
       ⟨(some 13), none, .len false (.t 12)⟩,
       ⟨(some 14), none, .call 118 [(.t 13)]⟩,
       ⟨(some 2), none, .take 14⟩])
     .ret))))
def ar61 : List AR := [.t 2]
theorem comp61 : Try.f61.body.bind (comp Try.prog 15) = some ac61 := by kernel_rfl
theorem cres61 : compRes Try.prog Try.f61.results.toList = some ar61 := by kernel_rfl
/-- bilander/segment.Sparse -/
def ac62 : AC :=
 (.seq
  (.reg [⟨(some 2), none, .box 2 (.t 0)⟩,
    ⟨(some 4), none, .alloc [(.int .i64 0), (.int .i64 0), .nils]⟩])
  (.seq
   (.reg [⟨(some 5), none, .mv (.c .nils)⟩])
   (.seq
    (.seq
     (.reg [⟨(some 8), none, .faddr (.t 2) 1⟩,
       ⟨(some 9), none, .load none (.t 8)⟩,
       ⟨(some 10), none, .len false (.t 9)⟩,
       ⟨(some 11), none, .mv (.c (.int .i64 0))⟩])
     (.block 0
      (.loop
       (.seq
        (.reg [⟨(some 12), none, .bin .lss (.t 11) (.t 10)⟩])
        (.seq
         (.cond (.t 12)
          .skip
          (.exit 0))
         (.seq
          (.block 1
           (.seq
            (.reg [⟨(some 13), none, .take 11⟩,
              ⟨(some 14), none, .iaddr 6 (.t 9) (.t 11)⟩,
              ⟨(some 15), none, .load (some 6) (.t 14)⟩,
              ⟨(some 7), none, .alloc [(.int .i64 0), (.int .i64 0), (.int .i64 0), (.int .i64 0), (.int .i64 0), .nils]⟩,
              ⟨(some 6), none, .take 13⟩,
              ⟨none, none, .store 6 (.t 7) (.t 15)⟩])
            (.dreg [] [⟨(some 16), none, .take 5⟩,
              ⟨(some 17), none, .faddr (.t 7) 0⟩,
              ⟨(some 18), none, .load none (.t 17)⟩,
              ⟨(some 19), none, .load (some 6) (.t 7)⟩,
              ⟨(some 20), none, .call 115 [(.t 19)]⟩,
              ⟨(some 21), none, .mv (.t 6)⟩,
              ⟨(some 22), none, .build [(.int .i64 0), (.int .i64 0), (.int .i64 0)] [(0, 1, (.t 18)), (1, 1, (.t 20)), (2, 1, (.t 21))]⟩,
              ⟨(some 23), none, .bsl 3 1 [(.int .i64 0), (.int .i64 0), (.int .i64 0)] [(0, (.t 22))]⟩,
              ⟨(some 24), none, .app 3 24 16 (.t 23)⟩,
              ⟨(some 5), none, .take 24⟩])))
          (.reg [⟨(some 25), none, .bin .add (.t 11) (.c (.int .i64 1))⟩,
            ⟨(some 11), none, .take 25⟩])))))))
    (.seq
     (.reg [⟨(some 26), none, .mv (.t 1)⟩,
       ⟨(some 27), none, .mv (.t 5)⟩,
       ⟨(some 28), none, .call 119 [(.t 26), (.t 27)]⟩,
       ⟨none, none, .store 3 (.t 4) (.t 28)⟩])
     .ret))))
def ar62 : List AR := [.c 4 (some 3)]
theorem comp62 : Try.f62.body.bind (comp Try.prog 29) = some ac62 := by kernel_rfl
theorem cres62 : compRes Try.prog Try.f62.results.toList = some ar62 := by kernel_rfl
/-- bilander/bilanderref14.Sparse -/
def ac63 : AC :=
 (.seq
  (.reg [⟨(some 2), none, .box 2 (.t 0)⟩,
    ⟨(some 4), none, .alloc [(.int .i64 0), (.int .i64 0), .nils]⟩])
  (.seq
   (.reg [⟨(some 5), none, .mv (.c .nils)⟩])
   (.seq
    (.seq
     (.reg [⟨(some 6), none, .mv (.c (.int .i64 0))⟩])
     (.block 0
      (.loop
       (.seq
        (.seq
         (.reg [⟨(some 7), none, .mv (.t 6)⟩,
           ⟨(some 8), none, .faddr (.t 2) 1⟩,
           ⟨(some 9), none, .load none (.t 8)⟩,
           ⟨(some 10), none, .len false (.t 9)⟩,
           ⟨(some 11), none, .bin .lss (.t 7) (.t 10)⟩])
         (.cond (.t 11)
          .skip
          (.exit 0)))
        (.seq
         (.block 1
          (.dreg [] [⟨(some 14), none, .take 5⟩,
            ⟨(some 15), none, .faddr (.t 2) 1⟩,
            ⟨(some 16), none, .load none (.t 15)⟩,
            ⟨(some 17), none, .mv (.t 6)⟩,
            ⟨(some 18), none, .iaddr 6 (.t 16) (.t 17)⟩,
            ⟨(some 19), none, .faddr (.t 18) 0⟩,
            ⟨(some 20), none, .load none (.t 19)⟩,
            ⟨(some 21), none, .faddr (.t 2) 1⟩,
            ⟨(some 22), none, .load none (.t 21)⟩,
            ⟨(some 23), none, .mv (.t 6)⟩,
            ⟨(some 24), none, .iaddr 6 (.t 22) (.t 23)⟩,
            ⟨(some 25), none, .load (some 6) (.t 24)⟩,
            ⟨(some 26), none, .call 116 [(.t 25)]⟩,
            ⟨(some 27), none, .mv (.t 6)⟩,
            ⟨(some 28), none, .build [(.int .i64 0), (.int .i64 0), (.int .i64 0)] [(0, 1, (.t 20)), (1, 1, (.t 26)), (2, 1, (.t 27))]⟩,
            ⟨(some 29), none, .bsl 3 1 [(.int .i64 0), (.int .i64 0), (.int .i64 0)] [(0, (.t 28))]⟩,
            ⟨(some 30), none, .app 3 24 14 (.t 29)⟩,
            ⟨(some 5), none, .take 30⟩]))
         (.reg [⟨(some 12), none, .take 6⟩,
           ⟨(some 13), none, .bin .add (.t 12) (.c (.int .i64 1))⟩,
           ⟨(some 6), none, .take 13⟩]))))))
    (.seq
     (.reg [⟨(some 31), none, .mv (.t 1)⟩,
       ⟨(some 32), none, .mv (.t 5)⟩,
       ⟨(some 33), none, .call 120 [(.t 31), (.t 32)]⟩,
       ⟨none, none, .store 3 (.t 4) (.t 33)⟩])
     .ret))))
def ar63 : List AR := [.c 4 (some 3)]
theorem comp63 : Try.f63.body.bind (comp Try.prog 34) = some ac63 := by kernel_rfl
theorem cres63 : compRes Try.prog Try.f63.results.toList = some ar63 := by kernel_rfl
/-- bilander/segment.Check -/
def ac65 : AC :=
 (.seq
  (.reg [⟨(some 1), none, .box 2 (.t 0)⟩,
    ⟨(some 2), none, .mv (.c (.int .i64 0))⟩])
  (.seq
   (.seq
    (.reg [⟨(some 7), none, .faddr (.t 1) 0⟩,
      ⟨(some 8), none, .load none (.t 7)⟩,
      ⟨(some 9), none, .bin .lss (.t 8) (.c (.int .i64 0))⟩,
      ⟨(some 10), none, .take 9⟩,
      ⟨(some 11), (some (10, false)), .faddr (.t 1) 0⟩,
      ⟨(some 12), (some (10, false)), .load none (.t 11)⟩,
      ⟨(some 13), (some (10, false)), .bin .gtr (.t 12) (.c (.int .i64 4611686018427387903))⟩,
      ⟨(some 14), none, .pick (.t 10) (.c (.bool true)) (.t 13)⟩])
    (.cond (.t 14)
     (.seq
      (.reg [⟨(some 2), none, .mv (.c (.int .i64 11))⟩])
      .ret)
     .skip))
   (.seq
    (.reg [⟨(some 15), none, .faddr (.t 1) 0⟩,
      ⟨(some 16), none, .load none (.t 15)⟩,
      ⟨(some 3), none, .take 16⟩])
    (.seq
     (.seq
      (.reg [⟨(some 17), none, .faddr (.t 1) 1⟩,
        ⟨(some 18), none, .load none (.t 17)⟩,
        ⟨(some 19), none, .len false (.t 18)⟩,
        ⟨(some 20), none, .mv (.c (.int .i64 0))⟩])
      (.block 0
       (.loop
        (.seq
         (.reg [⟨(some 21), none, .bin .lss (.t 20) (.t 19)⟩])
         (.seq
          (.cond (.t 21)
           .skip
           (.exit 0))
          (.seq
           (.block 1
            (.seq
             (.reg [⟨(some 22), none, .iaddr 6 (.t 18) (.t 20)⟩,
               ⟨(some 23), none, .load (some 6) (.t 22)⟩,
               ⟨(some 5), none, .alloc [(.int .i64 0), (.int .i64 0), (.int .i64 0), (.int .i64 0), (.int .i64 0), .nils]⟩,
               ⟨none, none, .store 6 (.t 5) (.t 23)⟩])
             (.seq
              (.seq
               (.reg [⟨(some 24), none, .load (some 6) (.t 5)⟩,
                 ⟨(some 25), none, .call 67 [(.t 24)]⟩,
                 ⟨(some 6), none, .take 25⟩])
               (.seq
                (.reg [⟨(some 26), none, .mv (.t 6)⟩,
                  ⟨(some 27), none, .bin .neq (.t 26) (.c (.int .i64 0))⟩])
                (.cond (.t 27)
                 (.seq
                  (.reg [⟨(some 28), none, .take 6⟩,
                    ⟨(some 2), none, .take 28⟩])
                  .ret)
                 .skip)))
              (.seq
               (.seq
                (.reg [⟨(some 29), none, .faddr (.t 5) 0⟩,
                  ⟨(some 30), none, .load none (.t 29)⟩,
                  ⟨(some 31), none, .mv (.t 3)⟩,
                  ⟨(some 32), none, .bin .lss (.t 30) (.t 31)⟩])
                (.cond (.t 32)
                 (.seq
                  (.reg [⟨(some 2), none, .mv (.c (.int .i64 16))⟩])
                  .ret)
                 .skip))
               (.reg [⟨(some 33), none, .load (some 6) (.t 5)⟩,
                 ⟨(some 34), none, .call 70 [(.t 33)]⟩,
                 ⟨(some 3), none, .take 34⟩])))))
           (.reg [⟨(some 35), none, .bin .add (.t 20) (.c (.int .i64 1))⟩,
             ⟨(some 20), none, .take 35⟩])))))))
     (.seq
      (.reg [⟨(some 2), none, .mv (.c (.int .i64 0))⟩])
      .ret)))))
def ar65 : List AR := [.t 2]
theorem comp65 : Try.f65.body.bind (comp Try.prog 36) = some ac65 := by kernel_rfl
theorem cres65 : compRes Try.prog Try.f65.results.toList = some ar65 := by kernel_rfl
/-- bilander/segment.Put -/
def ac66 : AC :=
 (.seq
  (.reg [⟨(some 2), none, .box 2 (.t 0)⟩,
    ⟨(some 3), none, .box 6 (.t 1)⟩,
    ⟨(some 4), none, .alloc [(.int .i64 0), .nils]⟩,
    ⟨(some 5), none, .mv (.c (.int .i64 0))⟩])
  (.seq
   (.seq
    (.reg [⟨(some 7), none, .load (some 6) (.t 3)⟩,
      ⟨(some 8), none, .call 67 [(.t 7)]⟩,
      ⟨(some 6), none, .take 8⟩])
    (.seq
     (.reg [⟨(some 9), none, .mv (.t 6)⟩,
       ⟨(some 10), none, .bin .neq (.t 9) (.c (.int .i64 0))⟩])
     (.cond (.t 10)
      (.seq
       (.reg [⟨(some 11), none, .build [(.int .i64 0), .nils] []⟩,
         ⟨(some 12), none, .take 6⟩,
         ⟨none, none, .store 2 (.t 4) (.t 11)⟩,
         ⟨(some 5), none, .take 12⟩])
       .ret)
      .skip)))
   (.seq
    (.seq
     (.dreg [] [⟨(some 13), none, .faddr (.t 3) 0⟩,
       ⟨(some 14), none, .load none (.t 13)⟩,
       ⟨(some 15), none, .load (some 2) (.t 2)⟩,
       ⟨(some 16), none, .call 68 [(.t 15)]⟩,
       ⟨(some 17), none, .bin .lss (.t 14) (.t 16)⟩])
     (.cond (.t 17)
      (.seq
       (.reg [⟨(some 18), none, .build [(.int .i64 0), .nils] []⟩,
         ⟨none, none, .store 2 (.t 4) (.t 18)⟩,
         ⟨(some 5), none, .mv (.c (.int .i64 16))⟩])
       .ret)
      .skip))
    (.seq
     (.dreg [] [⟨(some 19), none, .faddr (.t 2) 0⟩,
       ⟨(some 20), none, .load none (.t 19)⟩,
       ⟨(some 21), none, .faddr (.t 2) 1⟩,
       ⟨(some 22), none, .load none (.t 21)⟩,
       ⟨(some 23), none, .call 122 [(.t 22)]⟩,
       ⟨(some 24), none, .load (some 6) (.t 3)⟩,
       ⟨(some 25), none, .bsl 6 1 [(.int .i64 0), (.int .i64 0), (.int .i64 0), (.int .i64 0), (.int .i64 0), .nils] [(0, (.t 24))]⟩,
       ⟨(some 26), none, .app 6 64 23 (.t 25)⟩,
       ⟨(some 27), none, .build [(.int .i64 0), .nils] [(0, 1, (.t 20)), (1, 1, (.t 26))]⟩,
       ⟨none, none, .store 2 (.t 4) (.t 27)⟩,
       ⟨(some 5), none, .mv (.c (.int .i64 0))⟩])
     .ret))))
def ar66 : List AR := [.c 4 (some 2), .t 5]
theorem comp66 : Try.f66.body.bind (comp Try.prog 28) = some ac66 := by kernel_rfl
theorem cres66 : compRes Try.prog Try.f66.results.toList = some ar66 := by kernel_rfl
/-- bilander/segment.Next -/
def ac68 : AC :=
 (.seq
  (.reg [⟨(some 1), none, .box 2 (.t 0)⟩,
    ⟨(some 2), none, .mv (.c (.int .i64 0))⟩])
  (.seq
   (.seq
    (.reg [⟨(some 3), none, .faddr (.t 1) 1⟩,
      ⟨(some 4), none, .load none (.t 3)⟩,
      ⟨(some 5), none, .len false (.t 4)⟩,
      ⟨(some 6), none, .bin .eql (.t 5) (.c (.int .i64 0))⟩])
    (.cond (.t 6)
     (.seq
      (.reg [⟨(some 7), none, .faddr (.t 1) 0⟩,
        ⟨(some 8), none, .load none (.t 7)⟩,
        ⟨(some 2), none, .take 8⟩])
      .ret)
     .skip))
   (.seq
    (.reg [⟨(some 9), none, .faddr (.t 1) 1⟩,
      ⟨(some 10), none, .load none (.t 9)⟩,
      ⟨(some 11), none, .faddr (.t 1) 1⟩,
      ⟨(some 12), none, .load none (.t 11)⟩,
      ⟨(some 13), none, .len false (.t 12)⟩,
      ⟨(some 14), none, .bin .sub (.t 13) (.c (.int .i64 1))⟩,
      ⟨(some 15), none, .iaddr 6 (.t 10) (.t 14)⟩,
      ⟨(some 16), none, .load (some 6) (.t 15)⟩,
      ⟨(some 17), none, .call 70 [(.t 16)]⟩,
      ⟨(some 2), none, .take 17⟩])
    .ret)))
def ar68 : List AR := [.t 2]
theorem comp68 : Try.f68.body.bind (comp Try.prog 18) = some ac68 := by kernel_rfl
theorem cres68 : compRes Try.prog Try.f68.results.toList = some ar68 := by kernel_rfl
/-- bilander/bilanderref14.Next -/
def ac108 : AC :=
 (.seq
  (.reg [⟨(some 1), none, .box 2 (.t 0)⟩,
    ⟨(some 2), none, .mv (.c (.int .i64 0))⟩])
  (.seq
   (.reg [⟨(some 4), none, .faddr (.t 1) 1⟩,
     ⟨(some 5), none, .load none (.t 4)⟩,
     ⟨(some 6), none, .len false (.t 5)⟩,
     ⟨(some 3), none, .take 6⟩])
   (.seq
    (.seq
     (.reg [⟨(some 7), none, .mv (.t 3)⟩,
       ⟨(some 8), none, .bin .eql (.t 7) (.c (.int .i64 0))⟩])
     (.cond (.t 8)
      (.seq
       (.reg [⟨(some 9), none, .faddr (.t 1) 0⟩,
         ⟨(some 10), none, .load none (.t 9)⟩,
         ⟨(some 2), none, .take 10⟩])
       .ret)
      .skip))
    (.seq
     (.reg [⟨(some 11), none, .faddr (.t 1) 1⟩,
       ⟨(some 12), none, .load none (.t 11)⟩,
       ⟨(some 13), none, .mv (.t 3)⟩,
       ⟨(some 14), none, .bin .sub (.t 13) (.c (.int .i64 1))⟩,
       ⟨(some 15), none, .iaddr 6 (.t 12) (.t 14)⟩,
       ⟨(some 16), none, .load (some 6) (.t 15)⟩,
       ⟨(some 17), none, .call 111 [(.t 16)]⟩,
       ⟨(some 2), none, .take 17⟩])
     .ret))))
def ar108 : List AR := [.t 2]
theorem comp108 : Try.f108.body.bind (comp Try.prog 18) = some ac108 := by kernel_rfl
theorem cres108 : compRes Try.prog Try.f108.results.toList = some ar108 := by kernel_rfl
/-- bilander/segment.Same -/
def ac109 : AC :=
 (.seq
  (.reg [⟨(some 2), none, .box 2 (.t 0)⟩,
    ⟨(some 3), none, .box 2 (.t 1)⟩,
    ⟨(some 4), none, .mv (.c (.bool false))⟩])
  (.seq
   (.reg [⟨(some 5), none, .faddr (.t 2) 0⟩,
     ⟨(some 6), none, .load none (.t 5)⟩,
     ⟨(some 7), none, .faddr (.t 3) 0⟩,
     ⟨(some 8), none, .load none (.t 7)⟩,
     ⟨(some 9), none, .bin .eql (.t 6) (.t 8)⟩,
     ⟨(some 10), none, .take 9⟩,
     ⟨(some 11), (some (10, true)), .faddr (.t 2) 1⟩,
     ⟨(some 12), (some (10, true)), .load none (.t 11)⟩,
     ⟨(some 13), (some (10, true)), .faddr (.t 3) 1⟩,
     ⟨(some 14), (some (10, true)), .load none (.t 13)⟩,
     ⟨(some 15), (some (10, true)), .call 94 [(.t 12), (.t 14), (.c (.fn 69 [] []))]⟩,
     ⟨(some 16), none, .pick (.t 10) (.t 15) (.c (.bool false))⟩,
     ⟨(some 4), none, .take 16⟩])
   .ret))
def ar109 : List AR := [.t 4]
theorem comp109 : Try.f109.body.bind (comp Try.prog 17) = some ac109 := by kernel_rfl
theorem cres109 : compRes Try.prog Try.f109.results.toList = some ar109 := by kernel_rfl
/-- bilander/frame.Need -/
def ac117 : AC :=
 (.seq
  (.reg [⟨(some 2), none, .mv (.c (.int .i64 0))⟩])
  (.seq
   (.reg [⟨(some 3), none, .mv (.t 0)⟩,
     ⟨(some 4), none, .minmax false (.t 3) (.c (.int .i64 1099511627776))⟩,
     ⟨(some 5), none, .minmax true (.c (.int .i64 0)) (.t 4)⟩,
     ⟨(some 6), none, .bin .add (.t 5) (.c (.int .i64 12))⟩,
     ⟨(some 7), none, .call 147 [(.t 6)]⟩,
     ⟨(some 2), none, .take 7⟩])
   .ret))
def ar117 : List AR := [.t 2]
theorem comp117 : Try.f117.body.bind (comp Try.prog 8) = some ac117 := by kernel_rfl
theorem cres117 : compRes Try.prog Try.f117.results.toList = some ar117 := by kernel_rfl
/-- bilander/bilanderref07.Need -/
def ac118 : AC :=
 (.seq
  (.reg [⟨(some 2), none, .mv (.c (.int .i64 0))⟩])
  (.seq
   (.reg [⟨(some 3), none, .mv (.t 0)⟩,
     ⟨(some 4), none, .minmax false (.t 3) (.c (.int .i64 1099511627776))⟩,
     ⟨(some 5), none, .minmax true (.c (.int .i64 0)) (.t 4)⟩,
     ⟨(some 6), none, .bin .add (.t 5) (.c (.int .i64 12))⟩,
     ⟨(some 7), none, .call 148 [(.t 6)]⟩,
     ⟨(some 2), none, .take 7⟩])
   .ret))
def ar118 : List AR := [.t 2]
theorem comp118 : Try.f118.body.bind (comp Try.prog 8) = some ac118 := by kernel_rfl
theorem cres118 : compRes Try.prog Try.f118.results.toList = some ar118 := by kernel_rfl
/-- slices.Clone[[]bilander/api.Batch,bilander/api.Batch] -/
def ac122 : AC :=
 (.seq
  (.reg [⟨(some 2), none, .mv (.c .nils)⟩])
  (.seq
   (.seq
    (.reg [⟨(some 3), none, .mv (.t 0)⟩,
      ⟨(some 4), none, .eqn true false (.t 3)⟩])
    (.cond (.t 4)
     (.seq
      (.reg [⟨(some 2), none, .mv (.c .nils)⟩])
      .ret)
     .skip))
   (.seq
    (.reg [⟨(some 5), none, .bsl 6 0 [(.int .i64 0), (.int .i64 0), (.int .i64 0), (.int .i64 0), (.int .i64 0), .nils] []⟩,
      ⟨(some 6), none, .mv (.t 0)⟩,
      ⟨(some 7), none, .app 6 64 5 (.t 6)⟩,
      ⟨(some 2), none, .take 7⟩])
    .ret)))
def ar122 : List AR := [.t 2]
theorem comp122 : Try.f122.body.bind (comp Try.prog 8) = some ac122 := by kernel_rfl
theorem cres122 : compRes Try.prog Try.f122.results.toList = some ar122 := by kernel_rfl
/-- bilander/block.Need -/
def ac147 : AC :=
 (.seq
  (.reg [⟨(some 2), none, .mv (.c (.int .i64 0))⟩])
  (.seq
   (.seq
    (.reg [⟨(some 3), none, .mv (.t 0)⟩,
      ⟨(some 4), none, .bin .leq (.t 3) (.c (.int .i64 0))⟩])
    (.cond (.t 4)
     (.seq
      (.reg [⟨(some 2), none, .mv (.c (.int .i64 1))⟩])
      .ret)
     .skip))
   (.seq
    (.reg [⟨(some 5), none, .mv (.t 0)⟩,
      ⟨(some 6), none, .bin .sub (.t 5) (.c (.int .i64 1))⟩,
      ⟨(some 7), none, .bin .quo (.t 6) (.c (.int .i64 61))⟩,
      ⟨(some 8), none, .bin .add (.t 7) (.c (.int .i64 1))⟩,
      ⟨(some 2), none, .take 8⟩])
    .ret)))
def ar147 : List AR := [.t 2]
theorem comp147 : Try.f147.body.bind (comp Try.prog 9) = some ac147 := by kernel_rfl
theorem cres147 : compRes Try.prog Try.f147.results.toList = some ar147 := by kernel_rfl
/-- bilander/bilanderref05.Need -/
def ac148 : AC :=
 (.seq
  (.reg [⟨(some 2), none, .mv (.c (.int .i64 0))⟩])
  (.seq
   (.reg [⟨(some 3), none, .mv (.c (.int .i64 1))⟩])
   (.seq
    (.block 0
     (.loop
      (.seq
       (.seq
        (.reg [⟨(some 4), none, .mv (.t 0)⟩,
          ⟨(some 5), none, .bin .gtr (.t 4) (.c (.int .i64 61))⟩,
          ⟨(some 6), none, .take 5⟩,
          ⟨(some 7), (some (6, true)), .mv (.t 3)⟩,
          ⟨(some 8), (some (6, true)), .bin .lss (.t 7) (.c (.int .i64 4294967296))⟩,
          ⟨(some 9), none, .pick (.t 6) (.t 8) (.c (.bool false))⟩])
        (.cond (.t 9)
         .skip
         (.exit 0)))
       (.block 1
        (.seq
         (.reg [⟨(some 10), none, .take 0⟩,
           ⟨(some 11), none, .bin .sub (.t 10) (.c (.int .i64 61))⟩,
           ⟨(some 0), none, .take 11⟩])
         (.reg [⟨(some 12), none, .take 3⟩,
           ⟨(some 13), none, .bin .add (.t 12) (.c (.int .i64 1))⟩,
           ⟨(some 3), none, .take 13⟩]))))))
    (.seq
     (.reg [⟨(some 14), none, .take 3⟩,
       ⟨(some 2), none, .take 14⟩])
     .ret))))
def ar148 : List AR := [.t 2]
theorem comp148 : Try.f148.body.bind (comp Try.prog 15) = some ac148 := by kernel_rfl
theorem cres148 : compRes Try.prog Try.f148.results.toList = some ar148 := by kernel_rfl
end Go.Proofs.Ytflcdbfcipkhkaa
