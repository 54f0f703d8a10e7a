import Derived.Test.YtflcdbfcipkhkaaAvL3
import Derived.Test.YtflcdbfcipkhkaaProg
import Derived.KernelRfl

set_option maxRecDepth 100000
namespace Go.Proofs.Ytflcdbfcipkhkaa
open Go.Av
/-- bilander/bilanderref04.Light -/
def ac64 : AC :=
 (.seq
  (.reg [⟨(some 1), none, .box 6 (.t 0)⟩,
    ⟨(some 2), none, .mv (.c (.bool false))⟩])
  (.seq
   (.seq
    (.reg [⟨(some 4), none, .faddr (.t 1) 5⟩,
      ⟨(some 5), none, .load none (.t 4)⟩,
      ⟨(some 6), none, .len false (.t 5)⟩,
      ⟨(some 7), none, .bin .gtr (.t 6) (.c (.int .i64 40))⟩])
    (.cond (.t 7)
     (.seq
      (.reg [⟨(some 2), none, .mv (.c (.bool false))⟩])
      .ret)
     .skip))
   (.seq
    (.seq
     (.reg [⟨(some 3), none, .mv (.c (.int .i64 0))⟩])
     (.block 0
      (.loop
       (.seq
        (.seq
         (.reg [⟨(some 8), none, .mv (.t 3)⟩,
           ⟨(some 9), none, .faddr (.t 1) 5⟩,
           ⟨(some 10), none, .load none (.t 9)⟩,
           ⟨(some 11), none, .len false (.t 10)⟩,
           ⟨(some 12), none, .bin .lss (.t 8) (.t 11)⟩])
         (.cond (.t 12)
          .skip
          (.exit 0)))
        (.seq
         (.block 1
          (.seq
           (.reg [⟨(some 15), none, .faddr (.t 1) 5⟩,
             ⟨(some 16), none, .load none (.t 15)⟩,
             ⟨(some 17), none, .mv (.t 3)⟩,
             ⟨(some 18), none, .iaddr 6 (.t 16) (.t 17)⟩,
             ⟨(some 19), none, .load (some 6) (.t 18)⟩,
             ⟨(some 20), none, .call 121 [(.t 19)]⟩,
             ⟨(some 21), none, .una .not (.t 20)⟩])
           (.cond (.t 21)
            (.seq
             (.reg [⟨(some 2), none, .mv (.c (.bool false))⟩])
             .ret)
            .skip)))
         (.reg [⟨(some 13), none, .take 3⟩,
           ⟨(some 14), none, .bin .add (.t 13) (.c (.int .i64 1))⟩,
           ⟨(some 3), none, .take 14⟩]))))))
    (.seq
     (.reg [⟨(some 2), none, .mv (.c (.bool true))⟩])
     .ret))))
def ar64 : List AR := [.t 2]
theorem comp64 : Try.f64.body.bind (comp Try.prog 22) = some ac64 := by kernel_rfl
theorem cres64 : compRes Try.prog Try.f64.results.toList = some ar64 := by kernel_rfl
/-- bilander/batch.Check -/
def ac67 : AC :=
 (.seq
  (.reg [⟨(some 1), none, .box 6 (.t 0)⟩,
    ⟨(some 2), none, .mv (.c (.int .i64 0))⟩])
  (.seq
   (.seq
    (.reg [⟨(some 8), none, .load (some 6) (.t 1)⟩,
      ⟨(some 9), none, .call 123 [(.t 8)]⟩,
      ⟨(some 3), none, .take 9⟩])
    (.seq
     (.reg [⟨(some 10), none, .mv (.t 3)⟩,
       ⟨(some 11), none, .bin .neq (.t 10) (.c (.int .i64 0))⟩])
     (.cond (.t 11)
      (.seq
       (.reg [⟨(some 12), none, .take 3⟩,
         ⟨(some 2), none, .take 12⟩])
       .ret)
      .skip)))
   (.seq
    (.reg [⟨(some 4), none, .mv (.c (.int .i64 (-1)))⟩])
    (.seq
     (.seq
      (.reg [⟨(some 13), none, .faddr (.t 1) 5⟩,
        ⟨(some 14), none, .load none (.t 13)⟩,
        ⟨(some 15), none, .len false (.t 14)⟩,
        ⟨(some 16), none, .mv (.c (.int .i64 0))⟩])
      (.block 0
       (.loop
        (.seq
         (.reg [⟨(some 17), none, .bin .lss (.t 16) (.t 15)⟩])
         (.seq
          (.cond (.t 17)
           .skip
           (.exit 0))
          (.seq
           (.block 1
            (.seq
             (.reg [⟨(some 18), none, .iaddr 6 (.t 14) (.t 16)⟩,
               ⟨(some 19), none, .load (some 6) (.t 18)⟩,
               ⟨(some 6), none, .alloc [(.int .i64 0), (.int .i64 0), (.bool false), (.str (ByteArray.mk #[])), (.bool false), (.str (ByteArray.mk #[]))]⟩,
               ⟨none, none, .store 6 (.t 6) (.t 19)⟩])
             (.seq
              (.seq
               (.reg [⟨(some 20), none, .load (some 6) (.t 6)⟩,
                 ⟨(some 21), none, .call 124 [(.t 20)]⟩,
                 ⟨(some 7), none, .take 21⟩])
               (.seq
                (.reg [⟨(some 22), none, .mv (.t 7)⟩,
                  ⟨(some 23), none, .bin .neq (.t 22) (.c (.int .i64 0))⟩])
                (.cond (.t 23)
                 (.seq
                  (.reg [⟨(some 24), none, .take 7⟩,
                    ⟨(some 2), none, .take 24⟩])
                  .ret)
                 .skip)))
              (.seq
               (.seq
                (.reg [⟨(some 25), none, .faddr (.t 6) 0⟩,
                  ⟨(some 26), none, .load none (.t 25)⟩,
                  ⟨(some 27), none, .mv (.t 4)⟩,
                  ⟨(some 28), none, .bin .leq (.t 26) (.t 27)⟩,
                  ⟨(some 29), none, .take 28⟩,
                  ⟨(some 30), (some (29, false)), .faddr (.t 6) 0⟩,
                  ⟨(some 31), (some (29, false)), .load none (.t 30)⟩,
                  ⟨(some 32), (some (29, false)), .faddr (.t 1) 1⟩,
                  ⟨(some 33), (some (29, false)), .load none (.t 32)⟩,
                  ⟨(some 34), (some (29, false)), .bin .geq (.t 31) (.t 33)⟩,
                  ⟨(some 35), none, .pick (.t 29) (.c (.bool true)) (.t 34)⟩])
                (.cond (.t 35)
                 (.seq
                  (.reg [⟨(some 2), none, .mv (.c (.int .i64 16))⟩])
                  .ret)
                 .skip))
               (.reg [⟨(some 36), none, .faddr (.t 6) 0⟩,
                 ⟨(some 37), none, .load none (.t 36)⟩,
                 ⟨(some 4), none, .take 37⟩])))))
           (.reg [⟨(some 38), none, .bin .add (.t 16) (.c (.int .i64 1))⟩,
             ⟨(some 16), none, .take 38⟩])))))))
     (.seq
      (.seq
       (.reg [⟨(some 39), none, .load (some 6) (.t 1)⟩,
         ⟨(some 40), none, .call 125 [(.t 39)]⟩,
         ⟨(some 41), none, .len false (.t 40)⟩,
         ⟨(some 42), none, .bin .gtr (.t 41) (.c (.int .i64 8192))⟩])
       (.cond (.t 42)
        (.seq
         (.reg [⟨(some 2), none, .mv (.c (.int .i64 5))⟩])
         .ret)
        .skip))
      (.seq
       (.reg [⟨(some 2), none, .mv (.c (.int .i64 0))⟩])
       .ret))))))
def ar67 : List AR := [.t 2]
theorem comp67 : Try.f67.body.bind (comp Try.prog 43) = some ac67 := by kernel_rfl
theorem cres67 : compRes Try.prog Try.f67.results.toList = some ar67 := by kernel_rfl
/-- bilander/batch.Same -/
def ac69 : AC :=
 (.seq
  (.reg [⟨(some 2), none, .box 6 (.t 0)⟩,
    ⟨(some 3), none, .box 6 (.t 1)⟩,
    ⟨(some 4), none, .mv (.c (.bool false))⟩])
  (.seq
   (.dreg [] [⟨(some 5), none, .load (some 6) (.t 2)⟩,
     ⟨(some 6), none, .call 126 [(.t 5)]⟩,
     ⟨(some 7), none, .load (some 6) (.t 3)⟩,
     ⟨(some 8), none, .call 126 [(.t 7)]⟩,
     ⟨(some 9), none, .eqs [1, 1, 1, 1, 1, 1] false (.t 6) (.t 8)⟩,
     ⟨(some 10), none, .mv (.t 9)⟩,
     ⟨(some 11), (some (10, true)), .faddr (.t 2) 5⟩,
     ⟨(some 12), (some (10, true)), .load none (.t 11)⟩,
     ⟨(some 13), (some (10, true)), .faddr (.t 3) 5⟩,
     ⟨(some 14), (some (10, true)), .load none (.t 13)⟩,
     ⟨(some 15), (some (10, true)), .call 127 [(.t 12), (.t 14)]⟩,
     ⟨(some 16), none, .pick (.t 10) (.t 15) (.c (.bool false))⟩,
     ⟨(some 4), none, .take 16⟩])
   .ret))
def ar69 : List AR := [.t 4]
theorem comp69 : Try.f69.body.bind (comp Try.prog 17) = some ac69 := by kernel_rfl
theorem cres69 : compRes Try.prog Try.f69.results.toList = some ar69 := by kernel_rfl
/-- bilander/batch.Next -/
def ac70 : AC :=
 (.seq
  (.reg [⟨(some 1), none, .box 6 (.t 0)⟩,
    ⟨(some 2), none, .mv (.c (.int .i64 0))⟩])
  (.seq
   (.reg [⟨(some 3), none, .faddr (.t 1) 0⟩,
     ⟨(some 4), none, .load none (.t 3)⟩,
     ⟨(some 5), none, .faddr (.t 1) 1⟩,
     ⟨(some 6), none, .load none (.t 5)⟩,
     ⟨(some 7), none, .bin .add (.t 4) (.t 6)⟩,
     ⟨(some 2), none, .take 7⟩])
   .ret))
def ar70 : List AR := [.t 2]
theorem comp70 : Try.f70.body.bind (comp Try.prog 8) = some ac70 := by kernel_rfl
theorem cres70 : compRes Try.prog Try.f70.results.toList = some ar70 := by kernel_rfl
/-- bilander/batch.Put -/
def ac84 : AC :=
 (.seq
  (.reg [⟨(some 1), none, .box 6 (.t 0)⟩,
    ⟨(some 2), none, .mv (.c .nils)⟩,
    ⟨(some 3), none, .mv (.c (.int .i64 0))⟩])
  (.seq
   (.seq
    (.reg [⟨(some 5), none, .load (some 6) (.t 1)⟩,
      ⟨(some 6), none, .call 67 [(.t 5)]⟩,
      ⟨(some 4), none, .take 6⟩])
    (.seq
     (.reg [⟨(some 7), none, .mv (.t 4)⟩,
       ⟨(some 8), none, .bin .neq (.t 7) (.c (.int .i64 0))⟩])
     (.cond (.t 8)
      (.seq
       (.reg [⟨(some 9), none, .take 4⟩,
         ⟨(some 2), none, .mv (.c .nils)⟩,
         ⟨(some 3), none, .take 9⟩])
       .ret)
      .skip)))
   (.seq
    (.reg [⟨(some 10), none, .load (some 6) (.t 1)⟩,
      ⟨(some 11), none, .call 125 [(.t 10)]⟩,
      ⟨(some 2), none, .take 11⟩,
      ⟨(some 3), none, .mv (.c (.int .i64 0))⟩])
    .ret)))
def ar84 : List AR := [.t 2, .t 3]
theorem comp84 : Try.f84.body.bind (comp Try.prog 12) = some ac84 := by kernel_rfl
theorem cres84 : compRes Try.prog Try.f84.results.toList = some ar84 := by kernel_rfl
/-- bilander/bilanderref04.Put -/
def ac87 : AC :=
 (.seq
  (.reg [⟨(some 1), none, .box 6 (.t 0)⟩,
    ⟨(some 2), none, .mv (.c .nils)⟩,
    ⟨(some 3), none, .mv (.c (.int .i64 0))⟩])
  (.seq
   (.reg [⟨(some 5), none, .load (some 6) (.t 1)⟩,
     ⟨(some 6), none, .call 107 [(.t 5)]⟩,
     ⟨(some 4), none, .take 6⟩])
   (.seq
    (.seq
     (.reg [⟨(some 7), none, .mv (.t 4)⟩,
       ⟨(some 8), none, .bin .neq (.t 7) (.c (.int .i64 0))⟩])
     (.cond (.t 8)
      (.seq
       (.reg [⟨(some 9), none, .take 4⟩,
         ⟨(some 2), none, .mv (.c .nils)⟩,
         ⟨(some 3), none, .take 9⟩])
       .ret)
      .skip))
    (.seq
     (.reg [⟨(some 10), none, .load (some 6) (.t 1)⟩,
       ⟨(some 11), none, .call 134 [(.t 10)]⟩,
       ⟨(some 2), none, .take 11⟩,
       ⟨(some 3), none, .mv (.c (.int .i64 0))⟩])
     .ret))))
def ar87 : List AR := [.t 2, .t 3]
theorem comp87 : Try.f87.body.bind (comp Try.prog 12) = some ac87 := by kernel_rfl
theorem cres87 : compRes Try.prog Try.f87.results.toList = some ar87 := by kernel_rfl
/-- bilander/bilanderref04.Same -/
def ac89 : AC :=
 (.seq
  (.reg [⟨(some 2), none, .box 6 (.t 0)⟩,
    ⟨(some 3), none, .box 6 (.t 1)⟩,
    ⟨(some 4), none, .mv (.c (.bool false))⟩])
  (.seq
   (.reg [⟨(some 5), none, .faddr (.t 2) 0⟩,
     ⟨(some 6), none, .load none (.t 5)⟩,
     ⟨(some 7), none, .faddr (.t 3) 0⟩,
     ⟨(some 8), none, .load none (.t 7)⟩,
     ⟨(some 9), none, .bin .eql (.t 6) (.t 8)⟩,
     ⟨(some 10), none, .take 9⟩,
     ⟨(some 11), (some (10, true)), .faddr (.t 2) 1⟩,
     ⟨(some 12), (some (10, true)), .load none (.t 11)⟩,
     ⟨(some 13), (some (10, true)), .faddr (.t 3) 1⟩,
     ⟨(some 14), (some (10, true)), .load none (.t 13)⟩,
     ⟨(some 15), (some (10, true)), .bin .eql (.t 12) (.t 14)⟩,
     ⟨(some 16), none, .pick (.t 10) (.t 15) (.c (.bool false))⟩,
     ⟨(some 17), none, .take 16⟩,
     ⟨(some 18), (some (17, true)), .faddr (.t 2) 2⟩,
     ⟨(some 19), (some (17, true)), .load none (.t 18)⟩,
     ⟨(some 20), (some (17, true)), .faddr (.t 3) 2⟩,
     ⟨(some 21), (some (17, true)), .load none (.t 20)⟩,
     ⟨(some 22), (some (17, true)), .bin .eql (.t 19) (.t 21)⟩,
     ⟨(some 23), none, .pick (.t 17) (.t 22) (.c (.bool false))⟩,
     ⟨(some 24), none, .take 23⟩,
     ⟨(some 25), (some (24, true)), .faddr (.t 2) 3⟩,
     ⟨(some 26), (some (24, true)), .load none (.t 25)⟩,
     ⟨(some 27), (some (24, true)), .faddr (.t 3) 3⟩,
     ⟨(some 28), (some (24, true)), .load none (.t 27)⟩,
     ⟨(some 29), (some (24, true)), .bin .eql (.t 26) (.t 28)⟩,
     ⟨(some 30), none, .pick (.t 24) (.t 29) (.c (.bool false))⟩,
     ⟨(some 31), none, .take 30⟩,
     ⟨(some 32), (some (31, true)), .faddr (.t 2) 4⟩,
     ⟨(some 33), (some (31, true)), .load none (.t 32)⟩,
     ⟨(some 34), (some (31, true)), .faddr (.t 3) 4⟩,
     ⟨(some 35), (some (31, true)), .load none (.t 34)⟩,
     ⟨(some 36), (some (31, true)), .bin .eql (.t 33) (.t 35)⟩,
     ⟨(some 37), none, .pick (.t 31) (.t 36) (.c (.bool false))⟩,
     ⟨(some 38), none, .take 37⟩,
     ⟨(some 39), (some (38, true)), .faddr (.t 2) 5⟩,
     ⟨(some 40), (some (38, true)), .load none (.t 39)⟩,
     ⟨(some 41), (some (38, true)), .faddr (.t 3) 5⟩,
     ⟨(some 42), (some (38, true)), .load none (.t 41)⟩,
     ⟨(some 43), (some (38, true)), .call 135 [(.t 40), (.t 42)]⟩,
     ⟨(some 44), none, .pick (.t 38) (.t 43) (.c (.bool false))⟩,
     ⟨(some 4), none, .take 44⟩])
   .ret))
def ar89 : List AR := [.t 4]
theorem comp89 : Try.f89.body.bind (comp Try.prog 45) = some ac89 := by kernel_rfl
theorem cres89 : compRes Try.prog Try.f89.results.toList = some ar89 := by kernel_rfl
/-- bilander/batch.Get -/
def ac102 : AC :=
 (.seq
  (.reg [⟨(some 2), none, .alloc [(.int .i64 0), (.int .i64 0), (.int .i64 0), (.int .i64 0), (.int .i64 0), .nils]⟩,
    ⟨(some 3), none, .mv (.c (.int .i64 0))⟩])
  (.seq
   (.reg [⟨(some 10), none, .mv (.t 0)⟩,
     ⟨(some 11), none, .callN 16 [(.t 10)]⟩,
     ⟨(some 4), none, .take 11⟩])
   (.seq
    (.reg [⟨(some 12), none, .mv (.t 4)⟩,
      ⟨(some 13), none, .callE 18 (.t 12) []⟩,
      ⟨(some 14), none, .mv (.t 4)⟩,
      ⟨(some 15), none, .callE 18 (.t 14) []⟩,
      ⟨(some 16), none, .mv (.t 4)⟩,
      ⟨(some 17), none, .callE 18 (.t 16) []⟩,
      ⟨(some 18), none, .mv (.t 4)⟩,
      ⟨(some 19), none, .callE 18 (.t 18) []⟩,
      ⟨(some 20), none, .mv (.t 4)⟩,
      ⟨(some 21), none, .callE 18 (.t 20) []⟩,
      ⟨(some 22), none, .build [(.int .i64 0), (.int .i64 0), (.int .i64 0), (.int .i64 0), (.int .i64 0), .nils] [(0, 1, (.t 13)), (1, 1, (.t 15)), (2, 1, (.t 17)), (3, 1, (.t 19)), (4, 1, (.t 21))]⟩,
      ⟨(some 5), none, .alloc [(.int .i64 0), (.int .i64 0), (.int .i64 0), (.int .i64 0), (.int .i64 0), .nils]⟩,
      ⟨none, none, .store 6 (.t 5) (.t 22)⟩])
    (.seq
     (.seq
      (.reg [⟨(some 23), none, .mv (.t 4)⟩,
        ⟨(some 24), none, .callE 18 (.t 23) []⟩,
        ⟨(some 25), none, .minmax false (.t 24) (.c (.int .i64 32))⟩,
        ⟨(some 26), none, .minmax true (.c (.int .i64 0)) (.t 25)⟩,
        ⟨(some 27), none, .mv (.c (.int .i64 0))⟩])
      (.block 0
       (.loop
        (.seq
         (.reg [⟨(some 28), none, .bin .lss (.t 27) (.t 26)⟩])
         (.seq
          (.cond (.t 28)
           .skip
           (.exit 0))
          (.seq
           (.block 1
            (.seq
             (.reg [⟨(some 30), none, .mv (.t 4)⟩,
               ⟨(some 31), none, .callE 137 (.t 30) []⟩,
               ⟨(some 29), none, .take 31⟩,
               ⟨(some 32), none, .extS 29 0⟩,
               ⟨(some 33), none, .ext 29 1⟩,
               ⟨(some 6), none, .alloc [(.int .i64 0), (.int .i64 0), (.bool false), (.str (ByteArray.mk #[])), (.bool false), (.str (ByteArray.mk #[]))]⟩,
               ⟨none, none, .store 6 (.t 6) (.t 32)⟩,
               ⟨(some 7), none, .take 33⟩])
             (.seq
              (.seq
               (.reg [⟨(some 34), none, .mv (.t 7)⟩,
                 ⟨(some 35), none, .bin .neq (.t 34) (.c (.int .i64 0))⟩])
               (.cond (.t 35)
                (.seq
                 (.reg [⟨(some 36), none, .build [(.int .i64 0), (.int .i64 0), (.int .i64 0), (.int .i64 0), (.int .i64 0), .nils] []⟩,
                   ⟨none, none, .store 6 (.t 2) (.t 36)⟩,
                   ⟨(some 3), none, .mv (.c (.int .i64 4))⟩])
                 .ret)
                .skip))
              (.reg [⟨(some 37), none, .faddr (.t 5) 5⟩,
                ⟨(some 38), none, .takeLoad (.t 37)⟩,
                ⟨(some 39), none, .load (some 6) (.t 6)⟩,
                ⟨(some 40), none, .bsl 6 1 [(.int .i64 0), (.int .i64 0), (.bool false), (.str (ByteArray.mk #[])), (.bool false), (.str (ByteArray.mk #[]))] [(0, (.t 39))]⟩,
                ⟨(some 41), none, .app 6 64 38 (.t 40)⟩,
                ⟨(some 42), none, .faddr (.t 5) 5⟩,
                ⟨none, none, .storeO (.t 42) 41⟩]))))
           (.reg [⟨(some 43), none, .bin .add (.t 27) (.c (.int .i64 1))⟩,
             ⟨(some 27), none, .take 43⟩])))))))
     (.seq
      (.seq
       (.reg [⟨(some 45), none, .load (some 6) (.t 5)⟩,
         ⟨(some 46), none, .call 84 [(.t 45)]⟩,
         ⟨(some 44), none, .take 46⟩,
         ⟨(some 47), none, .ext 44 0⟩,
         ⟨(some 48), none, .ext 44 1⟩,
         ⟨(some 8), none, .take 47⟩,
         ⟨(some 9), none, .take 48⟩])
       (.seq
        (.reg [⟨(some 49), none, .mv (.t 9)⟩,
          ⟨(some 50), none, .bin .neq (.t 49) (.c (.int .i64 0))⟩,
          ⟨(some 51), none, .take 50⟩,
          ⟨(some 52), (some (51, false)), .mv (.t 8)⟩,
          ⟨(some 53), (some (51, false)), .mv (.t 0)⟩,
          ⟨(some 54), (some (51, false)), .call 138 [(.t 52), (.t 53)]⟩,
          ⟨(some 55), (some (51, false)), .una .not (.t 54)⟩,
          ⟨(some 56), none, .pick (.t 51) (.c (.bool true)) (.t 55)⟩])
        (.cond (.t 56)
         (.seq
          (.reg [⟨(some 57), none, .build [(.int .i64 0), (.int .i64 0), (.int .i64 0), (.int .i64 0), (.int .i64 0), .nils] []⟩,
            ⟨none, none, .store 6 (.t 2) (.t 57)⟩,
            ⟨(some 3), none, .mv (.c (.int .i64 4))⟩])
          .ret)
         .skip)))
      (.seq
       (.reg [⟨(some 58), none, .load (some 6) (.t 5)⟩,
         ⟨none, none, .store 6 (.t 2) (.t 58)⟩,
         ⟨(some 3), none, .mv (.c (.int .i64 0))⟩])
       .ret))))))
def ar102 : List AR := [.c 2 (some 6), .t 3]
theorem comp102 : Try.f102.body.bind (comp Try.prog 59) = some ac102 := by kernel_rfl
theorem cres102 : compRes Try.prog Try.f102.results.toList = some ar102 := by kernel_rfl
/-- bilander/bilanderref04.Get -/
def ac106 : AC :=
 (.seq
  (.reg [⟨(some 2), none, .alloc [(.int .i64 0), (.int .i64 0), (.int .i64 0), (.int .i64 0), (.int .i64 0), .nils]⟩,
    ⟨(some 3), none, .mv (.c (.int .i64 0))⟩])
  (.seq
   (.seq
    (.reg [⟨(some 13), none, .mv (.t 0)⟩,
      ⟨(some 14), none, .len false (.t 13)⟩,
      ⟨(some 15), none, .bin .gtr (.t 14) (.c (.int .i64 8192))⟩])
    (.cond (.t 15)
     (.seq
      (.reg [⟨(some 16), none, .build [(.int .i64 0), (.int .i64 0), (.int .i64 0), (.int .i64 0), (.int .i64 0), .nils] []⟩,
        ⟨none, none, .store 6 (.t 2) (.t 16)⟩,
        ⟨(some 3), none, .mv (.c (.int .i64 4))⟩])
      .ret)
     .skip))
   (.seq
    (.reg [⟨(some 4), none, .alloc [(.int .i64 0), (.int .i64 0), (.int .i64 0), (.int .i64 0), (.int .i64 0), .nils]⟩])
    (.seq
     (.reg [⟨(some 5), none, .mv (.c (.int .i64 0))⟩])
     (.seq
      (.reg [⟨(some 17), none, .mv (.t 0)⟩,
        ⟨(some 18), none, .build [.nils, (.int .i64 0)] [(0, 1, (.t 17))]⟩,
        ⟨(some 6), none, .alloc [.nils, (.int .i64 0)]⟩,
        ⟨none, none, .store 2 (.t 6) (.t 18)⟩])
      (.seq
       (.reg [⟨(some 20), none, .load (some 2) (.t 6)⟩,
         ⟨(some 21), none, .call 17 [(.t 20)]⟩,
         ⟨(some 19), none, .take 21⟩,
         ⟨(some 22), none, .extS 19 0⟩,
         ⟨(some 23), none, .extS 19 1⟩,
         ⟨none, none, .store 2 (.t 6) (.t 22)⟩,
         ⟨(some 24), none, .faddr (.t 4) 0⟩,
         ⟨none, none, .store 1 (.t 24) (.t 23)⟩])
       (.seq
        (.reg [⟨(some 26), none, .load (some 2) (.t 6)⟩,
          ⟨(some 27), none, .call 17 [(.t 26)]⟩,
          ⟨(some 25), none, .take 27⟩,
          ⟨(some 28), none, .extS 25 0⟩,
          ⟨(some 29), none, .extS 25 1⟩,
          ⟨none, none, .store 2 (.t 6) (.t 28)⟩,
          ⟨(some 30), none, .faddr (.t 4) 1⟩,
          ⟨none, none, .store 1 (.t 30) (.t 29)⟩])
        (.seq
         (.reg [⟨(some 32), none, .load (some 2) (.t 6)⟩,
           ⟨(some 33), none, .call 17 [(.t 32)]⟩,
           ⟨(some 31), none, .take 33⟩,
           ⟨(some 34), none, .extS 31 0⟩,
           ⟨(some 35), none, .extS 31 1⟩,
           ⟨none, none, .store 2 (.t 6) (.t 34)⟩,
           ⟨(some 36), none, .faddr (.t 4) 2⟩,
           ⟨none, none, .store 1 (.t 36) (.t 35)⟩])
         (.seq
          (.reg [⟨(some 38), none, .load (some 2) (.t 6)⟩,
            ⟨(some 39), none, .call 17 [(.t 38)]⟩,
            ⟨(some 37), none, .take 39⟩,
            ⟨(some 40), none, .extS 37 0⟩,
            ⟨(some 41), none, .extS 37 1⟩,
            ⟨none, none, .store 2 (.t 6) (.t 40)⟩,
            ⟨(some 42), none, .faddr (.t 4) 3⟩,
            ⟨none, none, .store 1 (.t 42) (.t 41)⟩])
          (.seq
           (.reg [⟨(some 44), none, .load (some 2) (.t 6)⟩,
             ⟨(some 45), none, .call 17 [(.t 44)]⟩,
             ⟨(some 43), none, .take 45⟩,
             ⟨(some 46), none, .extS 43 0⟩,
             ⟨(some 47), none, .extS 43 1⟩,
             ⟨none, none, .store 2 (.t 6) (.t 46)⟩,
             ⟨(some 48), none, .faddr (.t 4) 4⟩,
             ⟨none, none, .store 1 (.t 48) (.t 47)⟩])
           (.seq
            (.reg [⟨(some 50), none, .load (some 2) (.t 6)⟩,
              ⟨(some 51), none, .call 17 [(.t 50)]⟩,
              ⟨(some 49), none, .take 51⟩,
              ⟨(some 52), none, .extS 49 0⟩,
              ⟨(some 53), none, .ext 49 1⟩,
              ⟨none, none, .store 2 (.t 6) (.t 52)⟩,
              ⟨(some 5), none, .take 53⟩])
            (.seq
             (.seq
              (.reg [⟨(some 7), none, .mv (.c (.int .i64 0))⟩])
              (.block 0
               (.loop
                (.seq
                 (.seq
                  (.reg [⟨(some 54), none, .mv (.t 7)⟩,
                    ⟨(some 55), none, .mv (.t 5)⟩,
                    ⟨(some 56), none, .bin .lss (.t 54) (.t 55)⟩,
                    ⟨(some 57), none, .take 56⟩,
                    ⟨(some 58), (some (57, true)), .mv (.t 7)⟩,
                    ⟨(some 59), (some (57, true)), .bin .lss (.t 58) (.c (.int .i64 32))⟩,
                    ⟨(some 60), none, .pick (.t 57) (.t 59) (.c (.bool false))⟩,
                    ⟨(some 61), none, .take 60⟩,
                    ⟨(some 62), (some (61, true)), .faddr (.t 6) 1⟩,
                    ⟨(some 63), (some (61, true)), .load none (.t 62)⟩,
                    ⟨(some 64), (some (61, true)), .bin .eql (.t 63) (.c (.int .i64 0))⟩,
                    ⟨(some 65), none, .pick (.t 61) (.t 64) (.c (.bool false))⟩])
                  (.cond (.t 65)
                   .skip
                   (.exit 0)))
                 (.seq
                  (.block 1
                   (.seq
                    (.reg [⟨(some 69), none, .load (some 2) (.t 6)⟩,
                      ⟨(some 70), none, .call 139 [(.t 69)]⟩,
                      ⟨(some 68), none, .take 70⟩,
                      ⟨(some 71), none, .extS 68 0⟩,
                      ⟨(some 72), none, .extS 68 1⟩,
                      ⟨(some 73), none, .ext 68 2⟩,
                      ⟨(some 8), none, .alloc [.nils, (.int .i64 0)]⟩,
                      ⟨(some 9), none, .alloc [(.int .i64 0), (.int .i64 0), (.bool false), (.str (ByteArray.mk #[])), (.bool false), (.str (ByteArray.mk #[]))]⟩,
                      ⟨none, none, .store 2 (.t 8) (.t 71)⟩,
                      ⟨none, none, .store 6 (.t 9) (.t 72)⟩,
                      ⟨(some 10), none, .take 73⟩])
                    (.seq
                     (.reg [⟨(some 74), none, .load (some 2) (.t 8)⟩,
                       ⟨none, none, .store 2 (.t 6) (.t 74)⟩])
                     (.reg [⟨(some 75), none, .faddr (.t 4) 5⟩,
                       ⟨(some 76), none, .takeLoad (.t 75)⟩,
                       ⟨(some 77), none, .load (some 6) (.t 9)⟩,
                       ⟨(some 78), none, .bsl 6 1 [(.int .i64 0), (.int .i64 0), (.bool false), (.str (ByteArray.mk #[])), (.bool false), (.str (ByteArray.mk #[]))] [(0, (.t 77))]⟩,
                       ⟨(some 79), none, .app 6 64 76 (.t 78)⟩,
                       ⟨(some 80), none, .faddr (.t 4) 5⟩,
                       ⟨none, none, .storeO (.t 80) 79⟩]))))
                  (.reg [⟨(some 66), none, .take 7⟩,
                    ⟨(some 67), none, .bin .add (.t 66) (.c (.int .i64 1))⟩,
                    ⟨(some 7), none, .take 67⟩]))))))
             (.seq
              (.reg [⟨(some 82), none, .load (some 6) (.t 4)⟩,
                ⟨(some 83), none, .call 87 [(.t 82)]⟩,
                ⟨(some 81), none, .take 83⟩,
                ⟨(some 84), none, .ext 81 0⟩,
                ⟨(some 85), none, .ext 81 1⟩,
                ⟨(some 11), none, .take 84⟩,
                ⟨(some 12), none, .take 85⟩])
              (.seq
               (.seq
                (.reg [⟨(some 86), none, .mv (.t 12)⟩,
                  ⟨(some 87), none, .bin .neq (.t 86) (.c (.int .i64 0))⟩,
                  ⟨(some 88), none, .take 87⟩,
                  ⟨(some 89), (some (88, false)), .mv (.t 11)⟩,
                  ⟨(some 90), (some (88, false)), .b2s (.t 89)⟩,
                  ⟨(some 91), (some (88, false)), .mv (.t 0)⟩,
                  ⟨(some 92), (some (88, false)), .b2s (.t 91)⟩,
                  ⟨(some 93), (some (88, false)), .bin .neq (.t 90) (.t 92)⟩,
                  ⟨(some 94), none, .pick (.t 88) (.c (.bool true)) (.t 93)⟩])
                (.cond (.t 94)
                 (.seq
                  (.reg [⟨(some 95), none, .build [(.int .i64 0), (.int .i64 0), (.int .i64 0), (.int .i64 0), (.int .i64 0), .nils] []⟩,
                    ⟨none, none, .store 6 (.t 2) (.t 95)⟩,
                    ⟨(some 3), none, .mv (.c (.int .i64 4))⟩])
                  .ret)
                 .skip))
               (.seq
                (.reg [⟨(some 96), none, .load (some 6) (.t 4)⟩,
                  ⟨none, none, .store 6 (.t 2) (.t 96)⟩,
                  ⟨(some 3), none, .mv (.c (.int .i64 0))⟩])
                .ret)))))))))))))))
def ar106 : List AR := [.c 2 (some 6), .t 3]
theorem comp106 : Try.f106.body.bind (comp Try.prog 97) = some ac106 := by kernel_rfl
theorem cres106 : compRes Try.prog Try.f106.results.toList = some ar106 := by kernel_rfl
/-- bilander/bilanderref04.Check -/
def ac107 : AC :=
 (.seq
  (.reg [⟨(some 1), none, .box 6 (.t 0)⟩,
    ⟨(some 2), none, .mv (.c (.int .i64 0))⟩])
  (.seq
   (.block 0
    (.seq
     (.reg [⟨(some 7), none, .faddr (.t 1) 1⟩,
       ⟨(some 8), none, .load none (.t 7)⟩,
       ⟨(some 9), none, .bin .lss (.t 8) (.c (.int .i64 1))⟩,
       ⟨(some 10), none, .take 9⟩,
       ⟨(some 11), (some (10, false)), .faddr (.t 1) 1⟩,
       ⟨(some 12), (some (10, false)), .load none (.t 11)⟩,
       ⟨(some 13), (some (10, false)), .bin .gtr (.t 12) (.c (.int .i64 32))⟩,
       ⟨(some 14), none, .pick (.t 10) (.c (.bool true)) (.t 13)⟩,
       ⟨(some 15), none, .take 14⟩,
       ⟨(some 16), (some (15, false)), .faddr (.t 1) 0⟩,
       ⟨(some 17), (some (15, false)), .load none (.t 16)⟩,
       ⟨(some 18), (some (15, false)), .bin .lss (.t 17) (.c (.int .i64 0))⟩,
       ⟨(some 19), none, .pick (.t 15) (.c (.bool true)) (.t 18)⟩,
       ⟨(some 20), none, .take 19⟩,
       ⟨(some 21), (some (20, false)), .faddr (.t 1) 0⟩,
       ⟨(some 22), (some (20, false)), .load none (.t 21)⟩,
       ⟨(some 23), (some (20, false)), .faddr (.t 1) 1⟩,
       ⟨(some 24), (some (20, false)), .load none (.t 23)⟩,
       ⟨(some 25), (some (20, false)), .bin .sub (.c (.int .i64 4611686018427387903)) (.t 24)⟩,
       ⟨(some 26), (some (20, false)), .bin .gtr (.t 22) (.t 25)⟩,
       ⟨(some 27), none, .pick (.t 20) (.c (.bool true)) (.t 26)⟩,
       ⟨(some 6), none, .take 27⟩])
     (.cond (.t 6)
      (.seq
       (.reg [⟨(some 2), none, .mv (.c (.int .i64 11))⟩])
       .ret)
      (.seq
       (.reg [⟨(some 29), none, .faddr (.t 1) 2⟩,
         ⟨(some 30), none, .load none (.t 29)⟩,
         ⟨(some 31), none, .bin .lss (.t 30) (.c (.int .i64 0))⟩,
         ⟨(some 32), none, .take 31⟩,
         ⟨(some 33), (some (32, false)), .faddr (.t 1) 2⟩,
         ⟨(some 34), (some (32, false)), .load none (.t 33)⟩,
         ⟨(some 35), (some (32, false)), .bin .gtr (.t 34) (.c (.int .i64 1099511627776))⟩,
         ⟨(some 36), none, .pick (.t 32) (.c (.bool true)) (.t 35)⟩,
         ⟨(some 37), none, .take 36⟩,
         ⟨(some 38), (some (37, false)), .faddr (.t 1) 3⟩,
         ⟨(some 39), (some (37, false)), .load none (.t 38)⟩,
         ⟨(some 40), (some (37, false)), .bin .lss (.t 39) (.c (.int .i64 0))⟩,
         ⟨(some 41), none, .pick (.t 37) (.c (.bool true)) (.t 40)⟩,
         ⟨(some 42), none, .take 41⟩,
         ⟨(some 43), (some (42, false)), .faddr (.t 1) 3⟩,
         ⟨(some 44), (some (42, false)), .load none (.t 43)⟩,
         ⟨(some 45), (some (42, false)), .bin .gtr (.t 44) (.c (.int .i64 32767))⟩,
         ⟨(some 46), none, .pick (.t 42) (.c (.bool true)) (.t 45)⟩,
         ⟨(some 47), none, .take 46⟩,
         ⟨(some 48), (some (47, false)), .faddr (.t 1) 4⟩,
         ⟨(some 49), (some (47, false)), .load none (.t 48)⟩,
         ⟨(some 50), (some (47, false)), .bin .lss (.t 49) (.c (.int .i64 0))⟩,
         ⟨(some 51), none, .pick (.t 47) (.c (.bool true)) (.t 50)⟩,
         ⟨(some 52), none, .take 51⟩,
         ⟨(some 53), (some (52, false)), .faddr (.t 1) 4⟩,
         ⟨(some 54), (some (52, false)), .load none (.t 53)⟩,
         ⟨(some 55), (some (52, false)), .bin .gtr (.t 54) (.c (.int .i64 2147483647))⟩,
         ⟨(some 56), none, .pick (.t 52) (.c (.bool true)) (.t 55)⟩,
         ⟨(some 28), none, .take 56⟩])
       (.cond (.t 28)
        (.seq
         (.reg [⟨(some 2), none, .mv (.c (.int .i64 11))⟩])
         .ret)
        (.seq
         (.reg [⟨(some 58), none, .faddr (.t 1) 2⟩,
           ⟨(some 59), none, .load none (.t 58)⟩,
           ⟨(some 60), none, .bin .eql (.t 59) (.c (.int .i64 0))⟩,
           ⟨(some 61), none, .take 60⟩,
           ⟨(some 62), (some (61, true)), .faddr (.t 1) 3⟩,
           ⟨(some 63), (some (61, true)), .load none (.t 62)⟩,
           ⟨(some 64), (some (61, true)), .bin .neq (.t 63) (.c (.int .i64 0))⟩,
           ⟨(some 65), (some (61, true)), .take 64⟩,
           ⟨(some 66), (some (65, false)), .faddr (.t 1) 4⟩,
           ⟨(some 67), (some (65, false)), .load none (.t 66)⟩,
           ⟨(some 68), (some (65, false)), .bin .neq (.t 67) (.c (.int .i64 0))⟩,
           ⟨(some 69), (some (61, true)), .pick (.t 65) (.c (.bool true)) (.t 68)⟩,
           ⟨(some 70), none, .pick (.t 61) (.t 69) (.c (.bool false))⟩,
           ⟨(some 57), none, .take 70⟩])
         (.cond (.t 57)
          (.seq
           (.reg [⟨(some 2), none, .mv (.c (.int .i64 4))⟩])
           .ret)
          (.seq
           (.reg [⟨(some 72), none, .faddr (.t 1) 5⟩,
             ⟨(some 73), none, .load none (.t 72)⟩,
             ⟨(some 74), none, .len false (.t 73)⟩,
             ⟨(some 75), none, .faddr (.t 1) 1⟩,
             ⟨(some 76), none, .load none (.t 75)⟩,
             ⟨(some 77), none, .bin .gtr (.t 74) (.t 76)⟩,
             ⟨(some 71), none, .take 77⟩])
           (.cond (.t 71)
            (.seq
             (.reg [⟨(some 2), none, .mv (.c (.int .i64 5))⟩])
             .ret)
            .skip)))))))))
   (.seq
    (.reg [⟨(some 3), none, .mv (.c (.int .i64 (-1)))⟩])
    (.seq
     (.seq
      (.reg [⟨(some 4), none, .mv (.c (.int .i64 0))⟩])
      (.block 1
       (.loop
        (.seq
         (.seq
          (.reg [⟨(some 78), none, .mv (.t 4)⟩,
            ⟨(some 79), none, .faddr (.t 1) 5⟩,
            ⟨(some 80), none, .load none (.t 79)⟩,
            ⟨(some 81), none, .len false (.t 80)⟩,
            ⟨(some 82), none, .bin .lss (.t 78) (.t 81)⟩])
          (.cond (.t 82)
           .skip
           (.exit 1)))
         (.seq
          (.block 2
           (.seq
            (.reg [⟨(some 85), none, .faddr (.t 1) 5⟩,
              ⟨(some 86), none, .load none (.t 85)⟩,
              ⟨(some 87), none, .mv (.t 4)⟩,
              ⟨(some 88), none, .iaddr 6 (.t 86) (.t 87)⟩,
              ⟨(some 89), none, .load (some 6) (.t 88)⟩,
              ⟨(some 90), none, .call 140 [(.t 89)]⟩,
              ⟨(some 5), none, .take 90⟩])
            (.seq
             (.block 3
              (.seq
               (.reg [⟨(some 92), none, .mv (.t 5)⟩,
                 ⟨(some 93), none, .bin .neq (.t 92) (.c (.int .i64 0))⟩,
                 ⟨(some 91), none, .take 93⟩])
               (.cond (.t 91)
                (.seq
                 (.reg [⟨(some 94), none, .take 5⟩,
                   ⟨(some 2), none, .take 94⟩])
                 .ret)
                (.seq
                 (.dreg [] [⟨(some 96), none, .faddr (.t 1) 5⟩,
                   ⟨(some 97), none, .load none (.t 96)⟩,
                   ⟨(some 98), none, .mv (.t 4)⟩,
                   ⟨(some 99), none, .iaddr 6 (.t 97) (.t 98)⟩,
                   ⟨(some 100), none, .faddr (.t 99) 0⟩,
                   ⟨(some 101), none, .load none (.t 100)⟩,
                   ⟨(some 102), none, .mv (.t 3)⟩,
                   ⟨(some 103), none, .bin .leq (.t 101) (.t 102)⟩,
                   ⟨(some 104), none, .mv (.t 103)⟩,
                   ⟨(some 105), (some (104, false)), .faddr (.t 1) 5⟩,
                   ⟨(some 106), (some (104, false)), .load none (.t 105)⟩,
                   ⟨(some 107), (some (104, false)), .mv (.t 4)⟩,
                   ⟨(some 108), (some (104, false)), .iaddr 6 (.t 106) (.t 107)⟩,
                   ⟨(some 109), (some (104, false)), .faddr (.t 108) 0⟩,
                   ⟨(some 110), (some (104, false)), .load none (.t 109)⟩,
                   ⟨(some 111), (some (104, false)), .faddr (.t 1) 1⟩,
                   ⟨(some 112), (some (104, false)), .load none (.t 111)⟩,
                   ⟨(some 113), (some (104, false)), .bin .geq (.t 110) (.t 112)⟩,
                   ⟨(some 114), none, .pick (.t 104) (.c (.bool true)) (.t 113)⟩,
                   ⟨(some 95), none, .take 114⟩])
                 (.cond (.t 95)
                  (.seq
                   (.reg [⟨(some 2), none, .mv (.c (.int .i64 16))⟩])
                   .ret)
                  .skip)))))
             (.reg [⟨(some 115), none, .faddr (.t 1) 5⟩,
               ⟨(some 116), none, .load none (.t 115)⟩,
               ⟨(some 117), none, .mv (.t 4)⟩,
               ⟨(some 118), none, .iaddr 6 (.t 116) (.t 117)⟩,
               ⟨(some 119), none, .faddr (.t 118) 0⟩,
               ⟨(some 120), none, .load none (.t 119)⟩,
               ⟨(some 3), none, .take 120⟩]))))
          (.reg [⟨(some 83), none, .take 4⟩,
            ⟨(some 84), none, .bin .add (.t 83) (.c (.int .i64 1))⟩,
            ⟨(some 4), none, .take 84⟩]))))))
     (.seq
      (.seq
       (.reg [⟨(some 121), none, .load (some 6) (.t 1)⟩,
         ⟨(some 122), none, .call 134 [(.t 121)]⟩,
         ⟨(some 123), none, .len false (.t 122)⟩,
         ⟨(some 124), none, .bin .gtr (.t 123) (.c (.int .i64 8192))⟩])
       (.cond (.t 124)
        (.seq
         (.reg [⟨(some 2), none, .mv (.c (.int .i64 5))⟩])
         .ret)
        .skip))
      (.seq
       (.reg [⟨(some 2), none, .mv (.c (.int .i64 0))⟩])
       .ret))))))
def ar107 : List AR := [.t 2]
theorem comp107 : Try.f107.body.bind (comp Try.prog 125) = some ac107 := by kernel_rfl
theorem cres107 : compRes Try.prog Try.f107.results.toList = some ar107 := by kernel_rfl
/-- bilander/batch.From -/
def ac110 : AC :=
 (.seq
  (.reg [⟨(some 2), none, .box 6 (.t 0)⟩,
    ⟨(some 3), none, .box 1 (.t 1)⟩,
    ⟨(some 4), none, .mv (.c .nils)⟩])
  (.seq
   (.seq
    (.frz [2, 3])
    (.reg [⟨(some 5), none, .faddr (.t 2) 5⟩,
      ⟨(some 6), none, .load none (.t 5)⟩,
      ⟨(some 7), none, .call 142 [(.t 6)]⟩,
      ⟨(some 8), none, .mkfn 143 [] [(.t 2), (.t 3)]⟩,
      ⟨(some 9), none, .call 141 [(.t 7), (.t 8)]⟩,
      ⟨(some 4), none, .take 9⟩]))
   .ret))
def ar110 : List AR := [.t 4]
theorem comp110 : Try.f110.body.bind (comp Try.prog 10) = some ac110 := by kernel_rfl
theorem cres110 : compRes Try.prog Try.f110.results.toList = some ar110 := by kernel_rfl
/-- bilander/bilanderref04.Next -/
def ac111 : AC :=
 (.seq
  (.reg [⟨(some 1), none, .box 6 (.t 0)⟩,
    ⟨(some 2), none, .mv (.c (.int .i64 0))⟩])
  (.seq
   (.reg [⟨(some 3), none, .faddr (.t 1) 0⟩,
     ⟨(some 4), none, .load none (.t 3)⟩,
     ⟨(some 5), none, .faddr (.t 1) 1⟩,
     ⟨(some 6), none, .load none (.t 5)⟩,
     ⟨(some 7), none, .bin .add (.t 4) (.t 6)⟩,
     ⟨(some 2), none, .take 7⟩])
   .ret))
def ar111 : List AR := [.t 2]
theorem comp111 : Try.f111.body.bind (comp Try.prog 8) = some ac111 := by kernel_rfl
theorem cres111 : compRes Try.prog Try.f111.results.toList = some ar111 := by kernel_rfl
/-- bilander/bilanderref04.From -/
def ac112 : AC :=
 (.seq
  (.reg [⟨(some 2), none, .box 6 (.t 0)⟩,
    ⟨(some 4), none, .mv (.c .nils)⟩])
  (.seq
   (.reg [⟨(some 5), none, .mv (.c .nils)⟩])
   (.seq
    (.seq
     (.reg [⟨(some 6), none, .mv (.c (.int .i64 0))⟩])
     (.block 0
      (.loop
       (.seq
        (.seq
         (.reg [⟨(some 7), none, .mv (.t 6)⟩,
           ⟨(some 8), none, .faddr (.t 2) 5⟩,
           ⟨(some 9), none, .load none (.t 8)⟩,
           ⟨(some 10), none, .len false (.t 9)⟩,
           ⟨(some 11), none, .bin .lss (.t 7) (.t 10)⟩])
         (.cond (.t 11)
          .skip
          (.exit 0)))
        (.seq
         (.block 1
          (.seq
           (.dreg [] [⟨(some 14), none, .faddr (.t 2) 0⟩,
             ⟨(some 15), none, .load none (.t 14)⟩,
             ⟨(some 16), none, .faddr (.t 2) 5⟩,
             ⟨(some 17), none, .load none (.t 16)⟩,
             ⟨(some 18), none, .mv (.t 6)⟩,
             ⟨(some 19), none, .iaddr 6 (.t 17) (.t 18)⟩,
             ⟨(some 20), none, .faddr (.t 19) 0⟩,
             ⟨(some 21), none, .load none (.t 20)⟩,
             ⟨(some 22), none, .bin .add (.t 15) (.t 21)⟩,
             ⟨(some 23), none, .mv (.t 1)⟩,
             ⟨(some 24), none, .bin .geq (.t 22) (.t 23)⟩])
           (.cond (.t 24)
            (.reg [⟨(some 25), none, .take 5⟩,
              ⟨(some 26), none, .faddr (.t 2) 5⟩,
              ⟨(some 27), none, .load none (.t 26)⟩,
              ⟨(some 28), none, .mv (.t 6)⟩,
              ⟨(some 29), none, .iaddr 6 (.t 27) (.t 28)⟩,
              ⟨(some 30), none, .load (some 6) (.t 29)⟩,
              ⟨(some 31), none, .bsl 6 1 [(.int .i64 0), (.int .i64 0), (.bool false), (.str (ByteArray.mk #[])), (.bool false), (.str (ByteArray.mk #[]))] [(0, (.t 30))]⟩,
              ⟨(some 32), none, .app 6 64 25 (.t 31)⟩,
              ⟨(some 5), none, .take 32⟩])
            .skip)))
         (.reg [⟨(some 12), none, .take 6⟩,
           ⟨(some 13), none, .bin .add (.t 12) (.c (.int .i64 1))⟩,
           ⟨(some 6), none, .take 13⟩]))))))
    (.seq
     (.reg [⟨(some 33), none, .take 5⟩,
       ⟨(some 4), none, .take 33⟩])
     .ret))))
def ar112 : List AR := [.t 4]
theorem comp112 : Try.f112.body.bind (comp Try.prog 34) = some ac112 := by kernel_rfl
theorem cres112 : compRes Try.prog Try.f112.results.toList = some ar112 := by kernel_rfl
/-- bilander/batch.Newest -/
def ac115 : AC :=
 (.seq
  (.reg [⟨(some 1), none, .box 6 (.t 0)⟩,
    ⟨(some 2), none, .mv (.c (.int .i64 0))⟩])
  (.seq
   (.reg [⟨(some 3), none, .mv (.c (.int .i64 (-1)))⟩])
   (.seq
    (.seq
     (.reg [⟨(some 6), none, .faddr (.t 1) 5⟩,
       ⟨(some 7), none, .load none (.t 6)⟩,
       ⟨(some 8), none, .len false (.t 7)⟩,
       ⟨(some 9), none, .mv (.c (.int .i64 0))⟩])
     (.block 0
      (.loop
       (.seq
        (.reg [⟨(some 10), none, .bin .lss (.t 9) (.t 8)⟩])
        (.seq
         (.cond (.t 10)
          .skip
          (.exit 0))
         (.seq
          (.block 1
           (.seq
            (.reg [⟨(some 11), none, .iaddr 6 (.t 7) (.t 9)⟩,
              ⟨(some 12), none, .load (some 6) (.t 11)⟩,
              ⟨(some 5), none, .alloc [(.int .i64 0), (.int .i64 0), (.bool false), (.str (ByteArray.mk #[])), (.bool false), (.str (ByteArray.mk #[]))]⟩,
              ⟨none, none, .store 6 (.t 5) (.t 12)⟩])
            (.reg [⟨(some 13), none, .take 3⟩,
              ⟨(some 14), none, .faddr (.t 5) 1⟩,
              ⟨(some 15), none, .load none (.t 14)⟩,
              ⟨(some 16), none, .minmax true (.t 13) (.t 15)⟩,
              ⟨(some 3), none, .take 16⟩])))
          (.reg [⟨(some 17), none, .bin .add (.t 9) (.c (.int .i64 1))⟩,
            ⟨(some 9), none, .take 17⟩])))))))
    (.seq
     (.reg [⟨(some 18), none, .take 3⟩,
       ⟨(some 2), none, .take 18⟩])
     .ret))))
def ar115 : List AR := [.t 2]
theorem comp115 : Try.f115.body.bind (comp Try.prog 19) = some ac115 := by kernel_rfl
theorem cres115 : compRes Try.prog Try.f115.results.toList = some ar115 := by kernel_rfl
/-- bilander/bilanderref04.Newest -/
def ac116 : AC :=
 (.seq
  (.reg [⟨(some 1), none, .box 6 (.t 0)⟩,
    ⟨(some 2), none, .mv (.c (.int .i64 0))⟩])
  (.seq
   (.reg [⟨(some 3), none, .mv (.c (.int .i64 (-1)))⟩])
   (.seq
    (.seq
     (.reg [⟨(some 4), none, .mv (.c (.int .i64 0))⟩])
     (.block 0
      (.loop
       (.seq
        (.seq
         (.reg [⟨(some 5), none, .mv (.t 4)⟩,
           ⟨(some 6), none, .faddr (.t 1) 5⟩,
           ⟨(some 7), none, .load none (.t 6)⟩,
           ⟨(some 8), none, .len false (.t 7)⟩,
           ⟨(some 9), none, .bin .lss (.t 5) (.t 8)⟩])
         (.cond (.t 9)
          .skip
          (.exit 0)))
        (.seq
         (.block 1
          (.reg [⟨(some 12), none, .take 3⟩,
            ⟨(some 13), none, .faddr (.t 1) 5⟩,
            ⟨(some 14), none, .load none (.t 13)⟩,
            ⟨(some 15), none, .mv (.t 4)⟩,
            ⟨(some 16), none, .iaddr 6 (.t 14) (.t 15)⟩,
            ⟨(some 17), none, .faddr (.t 16) 1⟩,
            ⟨(some 18), none, .load none (.t 17)⟩,
            ⟨(some 19), none, .minmax true (.t 12) (.t 18)⟩,
            ⟨(some 3), none, .take 19⟩]))
         (.reg [⟨(some 10), none, .take 4⟩,
           ⟨(some 11), none, .bin .add (.t 10) (.c (.int .i64 1))⟩,
           ⟨(some 4), none, .take 11⟩]))))))
    (.seq
     (.reg [⟨(some 20), none, .take 3⟩,
       ⟨(some 2), none, .take 20⟩])
     .ret))))
def ar116 : List AR := [.t 2]
theorem comp116 : Try.f116.body.bind (comp Try.prog 21) = some ac116 := by kernel_rfl
theorem cres116 : compRes Try.prog Try.f116.results.toList = some ar116 := by kernel_rfl
/-- bilander/batch.numbers -/
def ac123 : AC :=
 (.seq
  (.reg [⟨(some 1), none, .box 6 (.t 0)⟩,
    ⟨(some 2), none, .mv (.c (.int .i64 0))⟩])
  (.seq
   (.block 0
    (.seq
     (.reg [⟨(some 4), none, .faddr (.t 1) 1⟩,
       ⟨(some 5), none, .load none (.t 4)⟩,
       ⟨(some 6), none, .bin .lss (.t 5) (.c (.int .i64 1))⟩,
       ⟨(some 7), none, .take 6⟩,
       ⟨(some 8), (some (7, false)), .faddr (.t 1) 1⟩,
       ⟨(some 9), (some (7, false)), .load none (.t 8)⟩,
       ⟨(some 10), (some (7, false)), .bin .gtr (.t 9) (.c (.int .i64 32))⟩,
       ⟨(some 11), none, .pick (.t 7) (.c (.bool true)) (.t 10)⟩,
       ⟨(some 12), none, .take 11⟩,
       ⟨(some 13), (some (12, false)), .faddr (.t 1) 0⟩,
       ⟨(some 14), (some (12, false)), .load none (.t 13)⟩,
       ⟨(some 15), (some (12, false)), .faddr (.t 1) 1⟩,
       ⟨(some 16), (some (12, false)), .load none (.t 15)⟩,
       ⟨(some 17), (some (12, false)), .bin .sub (.c (.int .i64 4611686018427387903)) (.t 16)⟩,
       ⟨(some 18), (some (12, false)), .call 153 [(.t 14), (.t 17)]⟩,
       ⟨(some 19), (some (12, false)), .una .not (.t 18)⟩,
       ⟨(some 20), none, .pick (.t 12) (.c (.bool true)) (.t 19)⟩,
       ⟨(some 3), none, .take 20⟩])
     (.cond (.t 3)
      (.seq
       (.reg [⟨(some 2), none, .mv (.c (.int .i64 11))⟩])
       .ret)
      (.seq
       (.reg [⟨(some 22), none, .faddr (.t 1) 2⟩,
         ⟨(some 23), none, .load none (.t 22)⟩,
         ⟨(some 24), none, .call 153 [(.t 23), (.c (.int .i64 1099511627776))]⟩,
         ⟨(some 25), none, .una .not (.t 24)⟩,
         ⟨(some 26), none, .take 25⟩,
         ⟨(some 27), (some (26, false)), .faddr (.t 1) 3⟩,
         ⟨(some 28), (some (26, false)), .load none (.t 27)⟩,
         ⟨(some 29), (some (26, false)), .call 153 [(.t 28), (.c (.int .i64 32767))]⟩,
         ⟨(some 30), (some (26, false)), .una .not (.t 29)⟩,
         ⟨(some 31), none, .pick (.t 26) (.c (.bool true)) (.t 30)⟩,
         ⟨(some 32), none, .take 31⟩,
         ⟨(some 33), (some (32, false)), .faddr (.t 1) 4⟩,
         ⟨(some 34), (some (32, false)), .load none (.t 33)⟩,
         ⟨(some 35), (some (32, false)), .call 153 [(.t 34), (.c (.int .i64 2147483647))]⟩,
         ⟨(some 36), (some (32, false)), .una .not (.t 35)⟩,
         ⟨(some 37), none, .pick (.t 32) (.c (.bool true)) (.t 36)⟩,
         ⟨(some 21), none, .take 37⟩])
       (.cond (.t 21)
        (.seq
         (.reg [⟨(some 2), none, .mv (.c (.int .i64 11))⟩])
         .ret)
        (.seq
         (.reg [⟨(some 39), none, .faddr (.t 1) 2⟩,
           ⟨(some 40), none, .load none (.t 39)⟩,
           ⟨(some 41), none, .bin .eql (.t 40) (.c (.int .i64 0))⟩,
           ⟨(some 42), none, .take 41⟩,
           ⟨(some 43), (some (42, true)), .faddr (.t 1) 3⟩,
           ⟨(some 44), (some (42, true)), .load none (.t 43)⟩,
           ⟨(some 45), (some (42, true)), .bin .neq (.t 44) (.c (.int .i64 0))⟩,
           ⟨(some 46), (some (42, true)), .take 45⟩,
           ⟨(some 47), (some (46, false)), .faddr (.t 1) 4⟩,
           ⟨(some 48), (some (46, false)), .load none (.t 47)⟩,
           ⟨(some 49), (some (46, false)), .bin .neq (.t 48) (.c (.int .i64 0))⟩,
           ⟨(some 50), (some (42, true)), .pick (.t 46) (.c (.bool true)) (.t 49)⟩,
           ⟨(some 51), none, .pick (.t 42) (.t 50) (.c (.bool false))⟩,
           ⟨(some 38), none, .take 51⟩])
         (.cond (.t 38)
          (.seq
           (.reg [⟨(some 2), none, .mv (.c (.int .i64 4))⟩])
           .ret)
          (.seq
           (.reg [⟨(some 53), none, .faddr (.t 1) 5⟩,
             ⟨(some 54), none, .load none (.t 53)⟩,
             ⟨(some 55), none, .len false (.t 54)⟩,
             ⟨(some 56), none, .faddr (.t 1) 1⟩,
             ⟨(some 57), none, .load none (.t 56)⟩,
             ⟨(some 58), none, .bin .gtr (.t 55) (.t 57)⟩,
             ⟨(some 52), none, .take 58⟩])
           (.cond (.t 52)
            (.seq
             (.reg [⟨(some 2), none, .mv (.c (.int .i64 5))⟩])
             .ret)
            .skip)))))))))
   (.seq
    (.reg [⟨(some 2), none, .mv (.c (.int .i64 0))⟩])
    .ret)))
def ar123 : List AR := [.t 2]
theorem comp123 : Try.f123.body.bind (comp Try.prog 59) = some ac123 := by kernel_rfl
theorem cres123 : compRes Try.prog Try.f123.results.toList = some ar123 := by kernel_rfl
/-- bilander/batch.lay -/
def ac125 : AC :=
 (.seq
  (.reg [⟨(some 1), none, .box 6 (.t 0)⟩,
    ⟨(some 2), none, .mv (.c .nils)⟩])
  (.seq
   (.reg [⟨(some 3), none, .mv (.c .nils)⟩])
   (.seq
    (.seq
     (.reg [⟨(some 10), none, .load (some 6) (.t 1)⟩,
       ⟨(some 11), none, .call 126 [(.t 10)]⟩,
       ⟨(some 12), none, .mv (.c (.int .i64 0))⟩])
     (.block 0
      (.loop
       (.seq
        (.reg [⟨(some 13), none, .bin .lss (.t 12) (.c (.int .i64 6))⟩])
        (.seq
         (.cond (.t 13)
          .skip
          (.exit 0))
         (.seq
          (.block 1
           (.seq
            (.reg [⟨(some 14), none, .idxA 6 1 none (.t 11) (.t 12)⟩,
              ⟨(some 5), none, .take 14⟩])
            (.reg [⟨(some 15), none, .take 3⟩,
              ⟨(some 16), none, .mv (.t 5)⟩,
              ⟨(some 17), none, .call 71 [(.t 16)]⟩,
              ⟨(some 18), none, .app 1 1 15 (.t 17)⟩,
              ⟨(some 3), none, .take 18⟩])))
          (.reg [⟨(some 19), none, .bin .add (.t 12) (.c (.int .i64 1))⟩,
            ⟨(some 12), none, .take 19⟩])))))))
    (.seq
     (.seq
      (.reg [⟨(some 20), none, .faddr (.t 1) 5⟩,
        ⟨(some 21), none, .load none (.t 20)⟩,
        ⟨(some 22), none, .len false (.t 21)⟩,
        ⟨(some 23), none, .mv (.c (.int .i64 0))⟩])
      (.block 2
       (.loop
        (.seq
         (.reg [⟨(some 24), none, .bin .lss (.t 23) (.t 22)⟩])
         (.seq
          (.cond (.t 24)
           .skip
           (.exit 2))
          (.seq
           (.block 3
            (.seq
             (.reg [⟨(some 25), none, .iaddr 6 (.t 21) (.t 23)⟩,
               ⟨(some 26), none, .load (some 6) (.t 25)⟩,
               ⟨(some 7), none, .alloc [(.int .i64 0), (.int .i64 0), (.bool false), (.str (ByteArray.mk #[])), (.bool false), (.str (ByteArray.mk #[]))]⟩,
               ⟨none, none, .store 6 (.t 7) (.t 26)⟩])
             (.seq
              (.reg [⟨(some 28), none, .load (some 6) (.t 7)⟩,
                ⟨(some 29), none, .call 154 [(.t 28)]⟩,
                ⟨(some 27), none, .take 29⟩,
                ⟨(some 30), none, .ext 27 0⟩,
                ⟨(some 31), none, .ext 27 1⟩,
                ⟨(some 8), none, .take 30⟩,
                ⟨(some 9), none, .take 31⟩])
              (.reg [⟨(some 32), none, .take 3⟩,
                ⟨(some 33), none, .mv (.t 8)⟩,
                ⟨(some 34), none, .app 1 1 32 (.t 33)⟩,
                ⟨(some 3), none, .take 34⟩]))))
           (.reg [⟨(some 35), none, .bin .add (.t 23) (.c (.int .i64 1))⟩,
             ⟨(some 23), none, .take 35⟩])))))))
     (.seq
      (.reg [⟨(some 36), none, .take 3⟩,
        ⟨(some 2), none, .take 36⟩])
      .ret)))))
def ar125 : List AR := [.t 2]
theorem comp125 : Try.f125.body.bind (comp Try.prog 37) = some ac125 := by kernel_rfl
theorem cres125 : compRes Try.prog Try.f125.results.toList = some ar125 := by kernel_rfl
/-- bilander/batch.head -/
def ac126 : AC :=
 (.seq
  (.reg [⟨(some 1), none, .box 6 (.t 0)⟩,
    ⟨(some 2), none, .alloc [(.int .i64 0), (.int .i64 0), (.int .i64 0), (.int .i64 0), (.int .i64 0), (.int .i64 0)]⟩])
  (.seq
   (.reg [⟨(some 3), none, .faddr (.t 1) 0⟩,
     ⟨(some 4), none, .load none (.t 3)⟩,
     ⟨(some 5), none, .faddr (.t 1) 1⟩,
     ⟨(some 6), none, .load none (.t 5)⟩,
     ⟨(some 7), none, .faddr (.t 1) 2⟩,
     ⟨(some 8), none, .load none (.t 7)⟩,
     ⟨(some 9), none, .faddr (.t 1) 3⟩,
     ⟨(some 10), none, .load none (.t 9)⟩,
     ⟨(some 11), none, .faddr (.t 1) 4⟩,
     ⟨(some 12), none, .load none (.t 11)⟩,
     ⟨(some 13), none, .faddr (.t 1) 5⟩,
     ⟨(some 14), none, .load none (.t 13)⟩,
     ⟨(some 15), none, .len false (.t 14)⟩,
     ⟨(some 16), none, .build [(.int .i64 0), (.int .i64 0), (.int .i64 0), (.int .i64 0), (.int .i64 0), (.int .i64 0)] [(0, 1, (.t 4)), (1, 1, (.t 6)), (2, 1, (.t 8)), (3, 1, (.t 10)), (4, 1, (.t 12)), (5, 1, (.t 15))]⟩,
     ⟨none, none, .store 6 (.t 2) (.t 16)⟩])
   .ret))
def ar126 : List AR := [.c 2 (some 6)]
theorem comp126 : Try.f126.body.bind (comp Try.prog 17) = some ac126 := by kernel_rfl
theorem cres126 : compRes Try.prog Try.f126.results.toList = some ar126 := by kernel_rfl
/-- slices.Equal[[]bilander/api.Record,bilander/api.Record] -/
def ac127 : AC :=
 (.seq
  (.reg [⟨(some 4), none, .mv (.c (.bool false))⟩])
  (.seq
   (.seq
    (.reg [⟨(some 6), none, .mv (.t 0)⟩,
      ⟨(some 7), none, .len false (.t 6)⟩,
      ⟨(some 8), none, .mv (.t 1)⟩,
      ⟨(some 9), none, .len false (.t 8)⟩,
      ⟨(some 10), none, .bin .neq (.t 7) (.t 9)⟩])
    (.cond (.t 10)
     (.seq
      (.reg [⟨(some 4), none, .mv (.c (.bool false))⟩])
      .ret)
     .skip))
   (.seq
    (.seq
     (.reg [⟨(some 11), none, .mv (.t 0)⟩,
       ⟨(some 12), none, .len false (.t 11)⟩,
       ⟨(some 13), none, .mv (.c (.int .i64 0))⟩])
     (.block 0
      (.loop
       (.seq
        (.reg [⟨(some 14), none, .bin .lss (.t 13) (.t 12)⟩])
        (.seq
         (.cond (.t 14)
          .skip
          (.exit 0))
         (.seq
          (.block 1
           (.seq
            (.reg [⟨(some 15), none, .take 13⟩,
              ⟨(some 5), none, .take 15⟩])
            (.seq
             (.dreg [] [⟨(some 16), none, .mv (.t 0)⟩,
               ⟨(some 17), none, .mv (.t 5)⟩,
               ⟨(some 18), none, .iaddr 6 (.t 16) (.t 17)⟩,
               ⟨(some 19), none, .load (some 6) (.t 18)⟩,
               ⟨(some 20), none, .mv (.t 1)⟩,
               ⟨(some 21), none, .mv (.t 5)⟩,
               ⟨(some 22), none, .iaddr 6 (.t 20) (.t 21)⟩,
               ⟨(some 23), none, .load (some 6) (.t 22)⟩,
               ⟨(some 24), none, .eqs [1, 1, 0, 2, 0, 2] true (.t 19) (.t 23)⟩])
             (.cond (.t 24)
              (.seq
               (.reg [⟨(some 4), none, .mv (.c (.bool false))⟩])
               .ret)
              .skip))))
          (.reg [⟨(some 25), none, .bin .add (.t 13) (.c (.int .i64 1))⟩,
            ⟨(some 13), none, .take 25⟩])))))))
    (.seq
     (.reg [⟨(some 4), none, .mv (.c (.bool true))⟩])
     .ret))))
def ar127 : List AR := [.t 4]
theorem comp127 : Try.f127.body.bind (comp Try.prog 26) = some ac127 := by kernel_rfl
theorem cres127 : compRes Try.prog Try.f127.results.toList = some ar127 := by kernel_rfl
/-- bilander/bilanderref04.lay -/
def ac134 : AC :=
 (.seq
  (.reg [⟨(some 1), none, .box 6 (.t 0)⟩,
    ⟨(some 2), none, .mv (.c .nils)⟩])
  (.seq
   (.reg [⟨(some 3), none, .mv (.c .nils)⟩])
   (.seq
    (.reg [⟨(some 9), none, .faddr (.t 1) 0⟩,
      ⟨(some 10), none, .load none (.t 9)⟩,
      ⟨(some 11), none, .faddr (.t 1) 1⟩,
      ⟨(some 12), none, .load none (.t 11)⟩,
      ⟨(some 13), none, .faddr (.t 1) 2⟩,
      ⟨(some 14), none, .load none (.t 13)⟩,
      ⟨(some 15), none, .faddr (.t 1) 3⟩,
      ⟨(some 16), none, .load none (.t 15)⟩,
      ⟨(some 17), none, .faddr (.t 1) 4⟩,
      ⟨(some 18), none, .load none (.t 17)⟩,
      ⟨(some 19), none, .faddr (.t 1) 5⟩,
      ⟨(some 20), none, .load none (.t 19)⟩,
      ⟨(some 21), none, .len false (.t 20)⟩,
      ⟨(some 22), none, .bsl 1 6 [(.int .i64 0)] [(0, (.t 10)), (1, (.t 12)), (2, (.t 14)), (3, (.t 16)), (4, (.t 18)), (5, (.t 21))]⟩,
      ⟨(some 4), none, .take 22⟩])
    (.seq
     (.seq
      (.reg [⟨(some 5), none, .mv (.c (.int .i64 0))⟩])
      (.block 0
       (.loop
        (.seq
         (.seq
          (.reg [⟨(some 23), none, .mv (.t 5)⟩,
            ⟨(some 24), none, .mv (.t 4)⟩,
            ⟨(some 25), none, .len false (.t 24)⟩,
            ⟨(some 26), none, .bin .lss (.t 23) (.t 25)⟩])
          (.cond (.t 26)
           .skip
           (.exit 0)))
         (.seq
          (.block 1
           (.reg [⟨(some 29), none, .take 3⟩,
             ⟨(some 30), none, .mv (.t 4)⟩,
             ⟨(some 31), none, .mv (.t 5)⟩,
             ⟨(some 32), none, .iaddr 1 (.t 30) (.t 31)⟩,
             ⟨(some 33), none, .load none (.t 32)⟩,
             ⟨(some 34), none, .call 82 [(.t 33)]⟩,
             ⟨(some 35), none, .app 1 1 29 (.t 34)⟩,
             ⟨(some 3), none, .take 35⟩]))
          (.reg [⟨(some 27), none, .take 5⟩,
            ⟨(some 28), none, .bin .add (.t 27) (.c (.int .i64 1))⟩,
            ⟨(some 5), none, .take 28⟩]))))))
     (.seq
      (.seq
       (.reg [⟨(some 6), none, .mv (.c (.int .i64 0))⟩])
       (.block 2
        (.loop
         (.seq
          (.seq
           (.reg [⟨(some 36), none, .mv (.t 6)⟩,
             ⟨(some 37), none, .faddr (.t 1) 5⟩,
             ⟨(some 38), none, .load none (.t 37)⟩,
             ⟨(some 39), none, .len false (.t 38)⟩,
             ⟨(some 40), none, .bin .lss (.t 36) (.t 39)⟩])
           (.cond (.t 40)
            .skip
            (.exit 2)))
          (.seq
           (.block 3
            (.seq
             (.reg [⟨(some 44), none, .faddr (.t 1) 5⟩,
               ⟨(some 45), none, .load none (.t 44)⟩,
               ⟨(some 46), none, .mv (.t 6)⟩,
               ⟨(some 47), none, .iaddr 6 (.t 45) (.t 46)⟩,
               ⟨(some 48), none, .load (some 6) (.t 47)⟩,
               ⟨(some 49), none, .call 155 [(.t 48)]⟩,
               ⟨(some 43), none, .take 49⟩,
               ⟨(some 50), none, .ext 43 0⟩,
               ⟨(some 51), none, .ext 43 1⟩,
               ⟨(some 7), none, .take 50⟩,
               ⟨(some 8), none, .take 51⟩])
             (.reg [⟨(some 52), none, .take 3⟩,
               ⟨(some 53), none, .mv (.t 7)⟩,
               ⟨(some 54), none, .app 1 1 52 (.t 53)⟩,
               ⟨(some 3), none, .take 54⟩])))
           (.reg [⟨(some 41), none, .take 6⟩,
             ⟨(some 42), none, .bin .add (.t 41) (.c (.int .i64 1))⟩,
             ⟨(some 6), none, .take 42⟩]))))))
      (.seq
       (.reg [⟨(some 55), none, .take 3⟩,
         ⟨(some 2), none, .take 55⟩])
       .ret))))))
def ar134 : List AR := [.t 2]
theorem comp134 : Try.f134.body.bind (comp Try.prog 56) = some ac134 := by kernel_rfl
theorem cres134 : compRes Try.prog Try.f134.results.toList = some ar134 := by kernel_rfl
/-- slices.Clone[[]bilander/api.Record,bilander/api.Record] -/
def ac142 : AC :=
 (.seq
  (.reg [⟨(some 2), none, .mv (.c .nils)⟩])
  (.seq
   (.seq
    (.reg [⟨(some 3), none, .mv (.t 0)⟩,
      ⟨(some 4), none, .eqn true false (.t 3)⟩])
    (.cond (.t 4)
     (.seq
      (.reg [⟨(some 2), none, .mv (.c .nils)⟩])
      .ret)
     .skip))
   (.seq
    (.reg [⟨(some 5), none, .bsl 6 0 [(.int .i64 0), (.int .i64 0), (.bool false), (.str (ByteArray.mk #[])), (.bool false), (.str (ByteArray.mk #[]))] []⟩,
      ⟨(some 6), none, .mv (.t 0)⟩,
      ⟨(some 7), none, .app 6 64 5 (.t 6)⟩,
      ⟨(some 2), none, .take 7⟩])
    .ret)))
def ar142 : List AR := [.t 2]
theorem comp142 : Try.f142.body.bind (comp Try.prog 8) = some ac142 := by kernel_rfl
theorem cres142 : compRes Try.prog Try.f142.results.toList = some ar142 := by kernel_rfl
/-- bilander/batch.From$1 -/
def ac143 : AC :=
 (.seq
  (.reg [⟨(some 3), none, .box 6 (.t 0)⟩,
    ⟨(some 4), none, .mv (.c (.bool false))⟩])
  (.seq
   (.reg [⟨(some 5), none, .faddr (.t 1) 0⟩,
     ⟨(some 6), none, .load none (.t 5)⟩,
     ⟨(some 7), none, .faddr (.t 3) 0⟩,
     ⟨(some 8), none, .load none (.t 7)⟩,
     ⟨(some 9), none, .bin .add (.t 6) (.t 8)⟩,
     ⟨(some 10), none, .load none (.t 2)⟩,
     ⟨(some 11), none, .bin .lss (.t 9) (.t 10)⟩,
     ⟨(some 4), none, .take 11⟩])
   .ret))
def ar143 : List AR := [.t 4]
theorem comp143 : Try.f143.body.bind (comp Try.prog 12) = some ac143 := by kernel_rfl
theorem cres143 : compRes Try.prog Try.f143.results.toList = some ar143 := by kernel_rfl
/-- bilander/batch.within -/
def ac153 : AC :=
 (.seq
  (.reg [⟨(some 4), none, .mv (.c (.bool false))⟩])
  (.seq
   (.reg [⟨(some 5), none, .mv (.t 0)⟩,
     ⟨(some 6), none, .bin .geq (.t 5) (.c (.int .i64 0))⟩,
     ⟨(some 7), none, .take 6⟩,
     ⟨(some 8), (some (7, true)), .mv (.t 0)⟩,
     ⟨(some 9), (some (7, true)), .mv (.t 1)⟩,
     ⟨(some 10), (some (7, true)), .bin .leq (.t 8) (.t 9)⟩,
     ⟨(some 11), none, .pick (.t 7) (.t 10) (.c (.bool false))⟩,
     ⟨(some 4), none, .take 11⟩])
   .ret))
def ar153 : List AR := [.t 4]
theorem comp153 : Try.f153.body.bind (comp Try.prog 12) = some ac153 := by kernel_rfl
theorem cres153 : compRes Try.prog Try.f153.results.toList = some ar153 := by kernel_rfl
/-- slices.IndexFunc[[]bilander/api.Record,bilander/api.Record] -/
def ac157 : AC :=
 (.seq
  (.reg [⟨(some 4), none, .mv (.c (.int .i64 0))⟩])
  (.seq
   (.seq
    (.reg [⟨(some 6), none, .mv (.t 0)⟩,
      ⟨(some 7), none, .len false (.t 6)⟩,
      ⟨(some 8), none, .mv (.c (.int .i64 0))⟩])
    (.block 0
     (.loop
      (.seq
       (.reg [⟨(some 9), none, .bin .lss (.t 8) (.t 7)⟩])
       (.seq
        (.cond (.t 9)
         .skip
         (.exit 0))
        (.seq
         (.block 1
          (.seq
           (.reg [⟨(some 10), none, .take 8⟩,
             ⟨(some 5), none, .take 10⟩])
           (.seq
            (.reg [⟨(some 11), none, .mv (.t 1)⟩,
              ⟨(some 12), none, .mv (.t 0)⟩,
              ⟨(some 13), none, .mv (.t 5)⟩,
              ⟨(some 14), none, .iaddr 6 (.t 12) (.t 13)⟩,
              ⟨(some 15), none, .load (some 6) (.t 14)⟩,
              ⟨(some 16), none, .callV (.t 11) [(.t 15)]⟩])
            (.cond (.t 16)
             (.seq
              (.reg [⟨(some 17), none, .take 5⟩,
                ⟨(some 4), none, .take 17⟩])
              .ret)
             .skip))))
         (.reg [⟨(some 18), none, .bin .add (.t 8) (.c (.int .i64 1))⟩,
           ⟨(some 8), none, .take 18⟩])))))))
   (.seq
    (.reg [⟨(some 4), none, .mv (.c (.int .i64 (-1)))⟩])
    .ret)))
def ar157 : List AR := [.t 4]
theorem comp157 : Try.f157.body.bind (comp Try.prog 19) = some ac157 := by kernel_rfl
theorem cres157 : compRes Try.prog Try.f157.results.toList = some ar157 := by kernel_rfl
end Go.Proofs.Ytflcdbfcipkhkaa
