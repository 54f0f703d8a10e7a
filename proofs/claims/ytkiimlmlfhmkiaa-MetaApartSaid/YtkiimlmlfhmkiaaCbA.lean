import Derived.Test.YtkiimlmlfhmkiaaAvL3
import Derived.Test.YtkiimlmlfhmkiaaProg
import Derived.KernelRfl

set_option maxRecDepth 100000
namespace Go.Proofs.Ytkiimlmlfhmkiaa
open Go.Av
/-- bilander/bilanderref04.Light -/
def ac29 : AC :=
 (.seq
  (.reg [⟨(some 1), none, .box 6 (.t 0)⟩,
    ⟨(some 2), none, .mv (.c (.bool false))⟩])
  (.seq
   (.seq
    (.reg [⟨(some 4), none, .faddr (.t 1) 5⟩,
      ⟨(some 5), none, .load none (.t 4)⟩,
      ⟨(some 6), none, .len false (.t 5)⟩,
      ⟨(some 7), none, .bin .gtr (.t 6) (.c (.int .i64 40))⟩])
    (.cond (.t 7)
     (.seq
      (.reg [⟨(some 2), none, .mv (.c (.bool false))⟩])
      .ret)
     .skip))
   (.seq
    (.seq
     (.reg [⟨(some 3), none, .mv (.c (.int .i64 0))⟩])
     (.block 0
      (.loop
       (.seq
        (.seq
         (.reg [⟨(some 8), none, .mv (.t 3)⟩,
           ⟨(some 9), none, .faddr (.t 1) 5⟩,
           ⟨(some 10), none, .load none (.t 9)⟩,
           ⟨(some 11), none, .len false (.t 10)⟩,
           ⟨(some 12), none, .bin .lss (.t 8) (.t 11)⟩])
         (.cond (.t 12)
          .skip
          (.exit 0)))
        (.seq
         (.block 1
          (.seq
           (.reg [⟨(some 15), none, .faddr (.t 1) 5⟩,
             ⟨(some 16), none, .load none (.t 15)⟩,
             ⟨(some 17), none, .mv (.t 3)⟩,
             ⟨(some 18), none, .iaddr 6 (.t 16) (.t 17)⟩,
             ⟨(some 19), none, .load (some 6) (.t 18)⟩,
             ⟨(some 20), none, .call 70 [(.t 19)]⟩,
             ⟨(some 21), none, .una .not (.t 20)⟩])
           (.cond (.t 21)
            (.seq
             (.reg [⟨(some 2), none, .mv (.c (.bool false))⟩])
             .ret)
            .skip)))
         (.reg [⟨(some 13), none, .take 3⟩,
           ⟨(some 14), none, .bin .add (.t 13) (.c (.int .i64 1))⟩,
           ⟨(some 3), none, .take 14⟩]))))))
    (.seq
     (.reg [⟨(some 2), none, .mv (.c (.bool true))⟩])
     .ret))))
def ar29 : List AR := [.t 2]
theorem comp29 : Try.f29.body.bind (comp Try.prog 22) = some ac29 := by kernel_rfl
theorem cres29 : compRes Try.prog Try.f29.results.toList = some ar29 := by kernel_rfl
/-- bilander/batch.Put -/
def ac31 : AC :=
 (.seq
  (.reg [⟨(some 1), none, .box 6 (.t 0)⟩,
    ⟨(some 2), none, .mv (.c .nils)⟩,
    ⟨(some 3), none, .mv (.c (.int .i64 0))⟩])
  (.seq
   (.seq
    (.reg [⟨(some 5), none, .load (some 6) (.t 1)⟩,
      ⟨(some 6), none, .call 33 [(.t 5)]⟩,
      ⟨(some 4), none, .take 6⟩])
    (.seq
     (.reg [⟨(some 7), none, .mv (.t 4)⟩,
       ⟨(some 8), none, .bin .neq (.t 7) (.c (.int .i64 0))⟩])
     (.cond (.t 8)
      (.seq
       (.reg [⟨(some 9), none, .take 4⟩,
         ⟨(some 2), none, .mv (.c .nils)⟩,
         ⟨(some 3), none, .take 9⟩])
       .ret)
      .skip)))
   (.seq
    (.reg [⟨(some 10), none, .load (some 6) (.t 1)⟩,
      ⟨(some 11), none, .call 71 [(.t 10)]⟩,
      ⟨(some 2), none, .take 11⟩,
      ⟨(some 3), none, .mv (.c (.int .i64 0))⟩])
    .ret)))
def ar31 : List AR := [.t 2, .t 3]
theorem comp31 : Try.f31.body.bind (comp Try.prog 12) = some ac31 := by kernel_rfl
theorem cres31 : compRes Try.prog Try.f31.results.toList = some ar31 := by kernel_rfl
/-- bilander/bilanderref04.Put -/
def ac32 : AC :=
 (.seq
  (.reg [⟨(some 1), none, .box 6 (.t 0)⟩,
    ⟨(some 2), none, .mv (.c .nils)⟩,
    ⟨(some 3), none, .mv (.c (.int .i64 0))⟩])
  (.seq
   (.reg [⟨(some 5), none, .load (some 6) (.t 1)⟩,
     ⟨(some 6), none, .call 38 [(.t 5)]⟩,
     ⟨(some 4), none, .take 6⟩])
   (.seq
    (.seq
     (.reg [⟨(some 7), none, .mv (.t 4)⟩,
       ⟨(some 8), none, .bin .neq (.t 7) (.c (.int .i64 0))⟩])
     (.cond (.t 8)
      (.seq
       (.reg [⟨(some 9), none, .take 4⟩,
         ⟨(some 2), none, .mv (.c .nils)⟩,
         ⟨(some 3), none, .take 9⟩])
       .ret)
      .skip))
    (.seq
     (.reg [⟨(some 10), none, .load (some 6) (.t 1)⟩,
       ⟨(some 11), none, .call 72 [(.t 10)]⟩,
       ⟨(some 2), none, .take 11⟩,
       ⟨(some 3), none, .mv (.c (.int .i64 0))⟩])
     .ret))))
def ar32 : List AR := [.t 2, .t 3]
theorem comp32 : Try.f32.body.bind (comp Try.prog 12) = some ac32 := by kernel_rfl
theorem cres32 : compRes Try.prog Try.f32.results.toList = some ar32 := by kernel_rfl
/-- bilander/batch.Check -/
def ac33 : AC :=
 (.seq
  (.reg [⟨(some 1), none, .box 6 (.t 0)⟩,
    ⟨(some 2), none, .mv (.c (.int .i64 0))⟩])
  (.seq
   (.seq
    (.reg [⟨(some 8), none, .load (some 6) (.t 1)⟩,
      ⟨(some 9), none, .call 73 [(.t 8)]⟩,
      ⟨(some 3), none, .take 9⟩])
    (.seq
     (.reg [⟨(some 10), none, .mv (.t 3)⟩,
       ⟨(some 11), none, .bin .neq (.t 10) (.c (.int .i64 0))⟩])
     (.cond (.t 11)
      (.seq
       (.reg [⟨(some 12), none, .take 3⟩,
         ⟨(some 2), none, .take 12⟩])
       .ret)
      .skip)))
   (.seq
    (.reg [⟨(some 4), none, .mv (.c (.int .i64 (-1)))⟩])
    (.seq
     (.seq
      (.reg [⟨(some 13), none, .faddr (.t 1) 5⟩,
        ⟨(some 14), none, .load none (.t 13)⟩,
        ⟨(some 15), none, .len false (.t 14)⟩,
        ⟨(some 16), none, .mv (.c (.int .i64 0))⟩])
      (.block 0
       (.loop
        (.seq
         (.reg [⟨(some 17), none, .bin .lss (.t 16) (.t 15)⟩])
         (.seq
          (.cond (.t 17)
           .skip
           (.exit 0))
          (.seq
           (.block 1
            (.seq
             (.reg [⟨(some 18), none, .iaddr 6 (.t 14) (.t 16)⟩,
               ⟨(some 19), none, .load (some 6) (.t 18)⟩,
               ⟨(some 6), none, .alloc [(.int .i64 0), (.int .i64 0), (.bool false), (.str (ByteArray.mk #[])), (.bool false), (.str (ByteArray.mk #[]))]⟩,
               ⟨none, none, .store 6 (.t 6) (.t 19)⟩])
             (.seq
              (.seq
               (.reg [⟨(some 20), none, .load (some 6) (.t 6)⟩,
                 ⟨(some 21), none, .call 74 [(.t 20)]⟩,
                 ⟨(some 7), none, .take 21⟩])
               (.seq
                (.reg [⟨(some 22), none, .mv (.t 7)⟩,
                  ⟨(some 23), none, .bin .neq (.t 22) (.c (.int .i64 0))⟩])
                (.cond (.t 23)
                 (.seq
                  (.reg [⟨(some 24), none, .take 7⟩,
                    ⟨(some 2), none, .take 24⟩])
                  .ret)
                 .skip)))
              (.seq
               (.seq
                (.reg [⟨(some 25), none, .faddr (.t 6) 0⟩,
                  ⟨(some 26), none, .load none (.t 25)⟩,
                  ⟨(some 27), none, .mv (.t 4)⟩,
                  ⟨(some 28), none, .bin .leq (.t 26) (.t 27)⟩,
                  ⟨(some 29), none, .take 28⟩,
                  ⟨(some 30), (some (29, false)), .faddr (.t 6) 0⟩,
                  ⟨(some 31), (some (29, false)), .load none (.t 30)⟩,
                  ⟨(some 32), (some (29, false)), .faddr (.t 1) 1⟩,
                  ⟨(some 33), (some (29, false)), .load none (.t 32)⟩,
                  ⟨(some 34), (some (29, false)), .bin .geq (.t 31) (.t 33)⟩,
                  ⟨(some 35), none, .pick (.t 29) (.c (.bool true)) (.t 34)⟩])
                (.cond (.t 35)
                 (.seq
                  (.reg [⟨(some 2), none, .mv (.c (.int .i64 16))⟩])
                  .ret)
                 .skip))
               (.reg [⟨(some 36), none, .faddr (.t 6) 0⟩,
                 ⟨(some 37), none, .load none (.t 36)⟩,
                 ⟨(some 4), none, .take 37⟩])))))
           (.reg [⟨(some 38), none, .bin .add (.t 16) (.c (.int .i64 1))⟩,
             ⟨(some 16), none, .take 38⟩])))))))
     (.seq
      (.seq
       (.reg [⟨(some 39), none, .load (some 6) (.t 1)⟩,
         ⟨(some 40), none, .call 71 [(.t 39)]⟩,
         ⟨(some 41), none, .len false (.t 40)⟩,
         ⟨(some 42), none, .bin .gtr (.t 41) (.c (.int .i64 8192))⟩])
       (.cond (.t 42)
        (.seq
         (.reg [⟨(some 2), none, .mv (.c (.int .i64 5))⟩])
         .ret)
        .skip))
      (.seq
       (.reg [⟨(some 2), none, .mv (.c (.int .i64 0))⟩])
       .ret))))))
def ar33 : List AR := [.t 2]
theorem comp33 : Try.f33.body.bind (comp Try.prog 43) = some ac33 := by kernel_rfl
theorem cres33 : compRes Try.prog Try.f33.results.toList = some ar33 := by kernel_rfl
/-- bilander/batch.Same -/
def ac34 : AC :=
 (.seq
  (.reg [⟨(some 2), none, .box 6 (.t 0)⟩,
    ⟨(some 3), none, .box 6 (.t 1)⟩,
    ⟨(some 4), none, .mv (.c (.bool false))⟩])
  (.seq
   (.dreg [] [⟨(some 5), none, .load (some 6) (.t 2)⟩,
     ⟨(some 6), none, .call 75 [(.t 5)]⟩,
     ⟨(some 7), none, .load (some 6) (.t 3)⟩,
     ⟨(some 8), none, .call 75 [(.t 7)]⟩,
     ⟨(some 9), none, .eqs [1, 1, 1, 1, 1, 1] false (.t 6) (.t 8)⟩,
     ⟨(some 10), none, .mv (.t 9)⟩,
     ⟨(some 11), (some (10, true)), .faddr (.t 2) 5⟩,
     ⟨(some 12), (some (10, true)), .load none (.t 11)⟩,
     ⟨(some 13), (some (10, true)), .faddr (.t 3) 5⟩,
     ⟨(some 14), (some (10, true)), .load none (.t 13)⟩,
     ⟨(some 15), (some (10, true)), .call 76 [(.t 12), (.t 14)]⟩,
     ⟨(some 16), none, .pick (.t 10) (.t 15) (.c (.bool false))⟩,
     ⟨(some 4), none, .take 16⟩])
   .ret))
def ar34 : List AR := [.t 4]
theorem comp34 : Try.f34.body.bind (comp Try.prog 17) = some ac34 := by kernel_rfl
theorem cres34 : compRes Try.prog Try.f34.results.toList = some ar34 := by kernel_rfl
/-- bilander/bilanderref04.Same -/
def ac35 : AC :=
 (.seq
  (.reg [⟨(some 2), none, .box 6 (.t 0)⟩,
    ⟨(some 3), none, .box 6 (.t 1)⟩,
    ⟨(some 4), none, .mv (.c (.bool false))⟩])
  (.seq
   (.reg [⟨(some 5), none, .faddr (.t 2) 0⟩,
     ⟨(some 6), none, .load none (.t 5)⟩,
     ⟨(some 7), none, .faddr (.t 3) 0⟩,
     ⟨(some 8), none, .load none (.t 7)⟩,
     ⟨(some 9), none, .bin .eql (.t 6) (.t 8)⟩,
     ⟨(some 10), none, .take 9⟩,
     ⟨(some 11), (some (10, true)), .faddr (.t 2) 1⟩,
     ⟨(some 12), (some (10, true)), .load none (.t 11)⟩,
     ⟨(some 13), (some (10, true)), .faddr (.t 3) 1⟩,
     ⟨(some 14), (some (10, true)), .load none (.t 13)⟩,
     ⟨(some 15), (some (10, true)), .bin .eql (.t 12) (.t 14)⟩,
     ⟨(some 16), none, .pick (.t 10) (.t 15) (.c (.bool false))⟩,
     ⟨(some 17), none, .take 16⟩,
     ⟨(some 18), (some (17, true)), .faddr (.t 2) 2⟩,
     ⟨(some 19), (some (17, true)), .load none (.t 18)⟩,
     ⟨(some 20), (some (17, true)), .faddr (.t 3) 2⟩,
     ⟨(some 21), (some (17, true)), .load none (.t 20)⟩,
     ⟨(some 22), (some (17, true)), .bin .eql (.t 19) (.t 21)⟩,
     ⟨(some 23), none, .pick (.t 17) (.t 22) (.c (.bool false))⟩,
     ⟨(some 24), none, .take 23⟩,
     ⟨(some 25), (some (24, true)), .faddr (.t 2) 3⟩,
     ⟨(some 26), (some (24, true)), .load none (.t 25)⟩,
     ⟨(some 27), (some (24, true)), .faddr (.t 3) 3⟩,
     ⟨(some 28), (some (24, true)), .load none (.t 27)⟩,
     ⟨(some 29), (some (24, true)), .bin .eql (.t 26) (.t 28)⟩,
     ⟨(some 30), none, .pick (.t 24) (.t 29) (.c (.bool false))⟩,
     ⟨(some 31), none, .take 30⟩,
     ⟨(some 32), (some (31, true)), .faddr (.t 2) 4⟩,
     ⟨(some 33), (some (31, true)), .load none (.t 32)⟩,
     ⟨(some 34), (some (31, true)), .faddr (.t 3) 4⟩,
     ⟨(some 35), (some (31, true)), .load none (.t 34)⟩,
     ⟨(some 36), (some (31, true)), .bin .eql (.t 33) (.t 35)⟩,
     ⟨(some 37), none, .pick (.t 31) (.t 36) (.c (.bool false))⟩,
     ⟨(some 38), none, .take 37⟩,
     ⟨(some 39), (some (38, true)), .faddr (.t 2) 5⟩,
     ⟨(some 40), (some (38, true)), .load none (.t 39)⟩,
     ⟨(some 41), (some (38, true)), .faddr (.t 3) 5⟩,
     ⟨(some 42), (some (38, true)), .load none (.t 41)⟩,
     ⟨(some 43), (some (38, true)), .call 46 [(.t 40), (.t 42)]⟩,
     ⟨(some 44), none, .pick (.t 38) (.t 43) (.c (.bool false))⟩,
     ⟨(some 4), none, .take 44⟩])
   .ret))
def ar35 : List AR := [.t 4]
theorem comp35 : Try.f35.body.bind (comp Try.prog 45) = some ac35 := by kernel_rfl
theorem cres35 : compRes Try.prog Try.f35.results.toList = some ar35 := by kernel_rfl
/-- bilander/batch.Get -/
def ac36 : AC :=
 (.seq
  (.reg [⟨(some 2), none, .alloc [(.int .i64 0), (.int .i64 0), (.int .i64 0), (.int .i64 0), (.int .i64 0), .nils]⟩,
    ⟨(some 3), none, .mv (.c (.int .i64 0))⟩])
  (.seq
   (.reg [⟨(some 10), none, .mv (.t 0)⟩,
     ⟨(some 11), none, .callN 59 [(.t 10)]⟩,
     ⟨(some 4), none, .take 11⟩])
   (.seq
    (.reg [⟨(some 12), none, .mv (.t 4)⟩,
      ⟨(some 13), none, .callE 62 (.t 12) []⟩,
      ⟨(some 14), none, .mv (.t 4)⟩,
      ⟨(some 15), none, .callE 62 (.t 14) []⟩,
      ⟨(some 16), none, .mv (.t 4)⟩,
      ⟨(some 17), none, .callE 62 (.t 16) []⟩,
      ⟨(some 18), none, .mv (.t 4)⟩,
      ⟨(some 19), none, .callE 62 (.t 18) []⟩,
      ⟨(some 20), none, .mv (.t 4)⟩,
      ⟨(some 21), none, .callE 62 (.t 20) []⟩,
      ⟨(some 22), none, .build [(.int .i64 0), (.int .i64 0), (.int .i64 0), (.int .i64 0), (.int .i64 0), .nils] [(0, 1, (.t 13)), (1, 1, (.t 15)), (2, 1, (.t 17)), (3, 1, (.t 19)), (4, 1, (.t 21))]⟩,
      ⟨(some 5), none, .alloc [(.int .i64 0), (.int .i64 0), (.int .i64 0), (.int .i64 0), (.int .i64 0), .nils]⟩,
      ⟨none, none, .store 6 (.t 5) (.t 22)⟩])
    (.seq
     (.seq
      (.reg [⟨(some 23), none, .mv (.t 4)⟩,
        ⟨(some 24), none, .callE 62 (.t 23) []⟩,
        ⟨(some 25), none, .minmax false (.t 24) (.c (.int .i64 32))⟩,
        ⟨(some 26), none, .minmax true (.c (.int .i64 0)) (.t 25)⟩,
        ⟨(some 27), none, .mv (.c (.int .i64 0))⟩])
      (.block 0
       (.loop
        (.seq
         (.reg [⟨(some 28), none, .bin .lss (.t 27) (.t 26)⟩])
         (.seq
          (.cond (.t 28)
           .skip
           (.exit 0))
          (.seq
           (.block 1
            (.seq
             (.reg [⟨(some 30), none, .mv (.t 4)⟩,
               ⟨(some 31), none, .callE 77 (.t 30) []⟩,
               ⟨(some 29), none, .take 31⟩,
               ⟨(some 32), none, .extS 29 0⟩,
               ⟨(some 33), none, .ext 29 1⟩,
               ⟨(some 6), none, .alloc [(.int .i64 0), (.int .i64 0), (.bool false), (.str (ByteArray.mk #[])), (.bool false), (.str (ByteArray.mk #[]))]⟩,
               ⟨none, none, .store 6 (.t 6) (.t 32)⟩,
               ⟨(some 7), none, .take 33⟩])
             (.seq
              (.seq
               (.reg [⟨(some 34), none, .mv (.t 7)⟩,
                 ⟨(some 35), none, .bin .neq (.t 34) (.c (.int .i64 0))⟩])
               (.cond (.t 35)
                (.seq
                 (.reg [⟨(some 36), none, .build [(.int .i64 0), (.int .i64 0), (.int .i64 0), (.int .i64 0), (.int .i64 0), .nils] []⟩,
                   ⟨none, none, .store 6 (.t 2) (.t 36)⟩,
                   ⟨(some 3), none, .mv (.c (.int .i64 4))⟩])
                 .ret)
                .skip))
              (.reg [⟨(some 37), none, .faddr (.t 5) 5⟩,
                ⟨(some 38), none, .takeLoad (.t 37)⟩,
                ⟨(some 39), none, .load (some 6) (.t 6)⟩,
                ⟨(some 40), none, .bsl 6 1 [(.int .i64 0), (.int .i64 0), (.bool false), (.str (ByteArray.mk #[])), (.bool false), (.str (ByteArray.mk #[]))] [(0, (.t 39))]⟩,
                ⟨(some 41), none, .app 6 64 38 (.t 40)⟩,
                ⟨(some 42), none, .faddr (.t 5) 5⟩,
                ⟨none, none, .storeO (.t 42) 41⟩]))))
           (.reg [⟨(some 43), none, .bin .add (.t 27) (.c (.int .i64 1))⟩,
             ⟨(some 27), none, .take 43⟩])))))))
     (.seq
      (.seq
       (.reg [⟨(some 45), none, .load (some 6) (.t 5)⟩,
         ⟨(some 46), none, .call 31 [(.t 45)]⟩,
         ⟨(some 44), none, .take 46⟩,
         ⟨(some 47), none, .ext 44 0⟩,
         ⟨(some 48), none, .ext 44 1⟩,
         ⟨(some 8), none, .take 47⟩,
         ⟨(some 9), none, .take 48⟩])
       (.seq
        (.reg [⟨(some 49), none, .mv (.t 9)⟩,
          ⟨(some 50), none, .bin .neq (.t 49) (.c (.int .i64 0))⟩,
          ⟨(some 51), none, .take 50⟩,
          ⟨(some 52), (some (51, false)), .mv (.t 8)⟩,
          ⟨(some 53), (some (51, false)), .mv (.t 0)⟩,
          ⟨(some 54), (some (51, false)), .call 78 [(.t 52), (.t 53)]⟩,
          ⟨(some 55), (some (51, false)), .una .not (.t 54)⟩,
          ⟨(some 56), none, .pick (.t 51) (.c (.bool true)) (.t 55)⟩])
        (.cond (.t 56)
         (.seq
          (.reg [⟨(some 57), none, .build [(.int .i64 0), (.int .i64 0), (.int .i64 0), (.int .i64 0), (.int .i64 0), .nils] []⟩,
            ⟨none, none, .store 6 (.t 2) (.t 57)⟩,
            ⟨(some 3), none, .mv (.c (.int .i64 4))⟩])
          .ret)
         .skip)))
      (.seq
       (.reg [⟨(some 58), none, .load (some 6) (.t 5)⟩,
         ⟨none, none, .store 6 (.t 2) (.t 58)⟩,
         ⟨(some 3), none, .mv (.c (.int .i64 0))⟩])
       .ret))))))
def ar36 : List AR := [.c 2 (some 6), .t 3]
theorem comp36 : Try.f36.body.bind (comp Try.prog 59) = some ac36 := by kernel_rfl
theorem cres36 : compRes Try.prog Try.f36.results.toList = some ar36 := by kernel_rfl
/-- bilander/bilanderref04.Get -/
def ac37 : AC :=
 (.seq
  (.reg [⟨(some 2), none, .alloc [(.int .i64 0), (.int .i64 0), (.int .i64 0), (.int .i64 0), (.int .i64 0), .nils]⟩,
    ⟨(some 3), none, .mv (.c (.int .i64 0))⟩])
  (.seq
   (.seq
    (.reg [⟨(some 13), none, .mv (.t 0)⟩,
      ⟨(some 14), none, .len false (.t 13)⟩,
      ⟨(some 15), none, .bin .gtr (.t 14) (.c (.int .i64 8192))⟩])
    (.cond (.t 15)
     (.seq
      (.reg [⟨(some 16), none, .build [(.int .i64 0), (.int .i64 0), (.int .i64 0), (.int .i64 0), (.int .i64 0), .nils] []⟩,
        ⟨none, none, .store 6 (.t 2) (.t 16)⟩,
        ⟨(some 3), none, .mv (.c (.int .i64 4))⟩])
      .ret)
     .skip))
   (.seq
    (.reg [⟨(some 4), none, .alloc [(.int .i64 0), (.int .i64 0), (.int .i64 0), (.int .i64 0), (.int .i64 0), .nils]⟩])
    (.seq
     (.reg [⟨(some 5), none, .mv (.c (.int .i64 0))⟩])
     (.seq
      (.reg [⟨(some 17), none, .mv (.t 0)⟩,
        ⟨(some 18), none, .build [.nils, (.int .i64 0)] [(0, 1, (.t 17))]⟩,
        ⟨(some 6), none, .alloc [.nils, (.int .i64 0)]⟩,
        ⟨none, none, .store 2 (.t 6) (.t 18)⟩])
      (.seq
       (.reg [⟨(some 20), none, .load (some 2) (.t 6)⟩,
         ⟨(some 21), none, .call 68 [(.t 20)]⟩,
         ⟨(some 19), none, .take 21⟩,
         ⟨(some 22), none, .extS 19 0⟩,
         ⟨(some 23), none, .extS 19 1⟩,
         ⟨none, none, .store 2 (.t 6) (.t 22)⟩,
         ⟨(some 24), none, .faddr (.t 4) 0⟩,
         ⟨none, none, .store 1 (.t 24) (.t 23)⟩])
       (.seq
        (.reg [⟨(some 26), none, .load (some 2) (.t 6)⟩,
          ⟨(some 27), none, .call 68 [(.t 26)]⟩,
          ⟨(some 25), none, .take 27⟩,
          ⟨(some 28), none, .extS 25 0⟩,
          ⟨(some 29), none, .extS 25 1⟩,
          ⟨none, none, .store 2 (.t 6) (.t 28)⟩,
          ⟨(some 30), none, .faddr (.t 4) 1⟩,
          ⟨none, none, .store 1 (.t 30) (.t 29)⟩])
        (.seq
         (.reg [⟨(some 32), none, .load (some 2) (.t 6)⟩,
           ⟨(some 33), none, .call 68 [(.t 32)]⟩,
           ⟨(some 31), none, .take 33⟩,
           ⟨(some 34), none, .extS 31 0⟩,
           ⟨(some 35), none, .extS 31 1⟩,
           ⟨none, none, .store 2 (.t 6) (.t 34)⟩,
           ⟨(some 36), none, .faddr (.t 4) 2⟩,
           ⟨none, none, .store 1 (.t 36) (.t 35)⟩])
         (.seq
          (.reg [⟨(some 38), none, .load (some 2) (.t 6)⟩,
            ⟨(some 39), none, .call 68 [(.t 38)]⟩,
            ⟨(some 37), none, .take 39⟩,
            ⟨(some 40), none, .extS 37 0⟩,
            ⟨(some 41), none, .extS 37 1⟩,
            ⟨none, none, .store 2 (.t 6) (.t 40)⟩,
            ⟨(some 42), none, .faddr (.t 4) 3⟩,
            ⟨none, none, .store 1 (.t 42) (.t 41)⟩])
          (.seq
           (.reg [⟨(some 44), none, .load (some 2) (.t 6)⟩,
             ⟨(some 45), none, .call 68 [(.t 44)]⟩,
             ⟨(some 43), none, .take 45⟩,
             ⟨(some 46), none, .extS 43 0⟩,
             ⟨(some 47), none, .extS 43 1⟩,
             ⟨none, none, .store 2 (.t 6) (.t 46)⟩,
             ⟨(some 48), none, .faddr (.t 4) 4⟩,
             ⟨none, none, .store 1 (.t 48) (.t 47)⟩])
           (.seq
            (.reg [⟨(some 50), none, .load (some 2) (.t 6)⟩,
              ⟨(some 51), none, .call 68 [(.t 50)]⟩,
              ⟨(some 49), none, .take 51⟩,
              ⟨(some 52), none, .extS 49 0⟩,
              ⟨(some 53), none, .ext 49 1⟩,
              ⟨none, none, .store 2 (.t 6) (.t 52)⟩,
              ⟨(some 5), none, .take 53⟩])
            (.seq
             (.seq
              (.reg [⟨(some 7), none, .mv (.c (.int .i64 0))⟩])
              (.block 0
               (.loop
                (.seq
                 (.seq
                  (.reg [⟨(some 54), none, .mv (.t 7)⟩,
                    ⟨(some 55), none, .mv (.t 5)⟩,
                    ⟨(some 56), none, .bin .lss (.t 54) (.t 55)⟩,
                    ⟨(some 57), none, .take 56⟩,
                    ⟨(some 58), (some (57, true)), .mv (.t 7)⟩,
                    ⟨(some 59), (some (57, true)), .bin .lss (.t 58) (.c (.int .i64 32))⟩,
                    ⟨(some 60), none, .pick (.t 57) (.t 59) (.c (.bool false))⟩,
                    ⟨(some 61), none, .take 60⟩,
                    ⟨(some 62), (some (61, true)), .faddr (.t 6) 1⟩,
                    ⟨(some 63), (some (61, true)), .load none (.t 62)⟩,
                    ⟨(some 64), (some (61, true)), .bin .eql (.t 63) (.c (.int .i64 0))⟩,
                    ⟨(some 65), none, .pick (.t 61) (.t 64) (.c (.bool false))⟩])
                  (.cond (.t 65)
                   .skip
                   (.exit 0)))
                 (.seq
                  (.block 1
                   (.seq
                    (.reg [⟨(some 69), none, .load (some 2) (.t 6)⟩,
                      ⟨(some 70), none, .call 79 [(.t 69)]⟩,
                      ⟨(some 68), none, .take 70⟩,
                      ⟨(some 71), none, .extS 68 0⟩,
                      ⟨(some 72), none, .extS 68 1⟩,
                      ⟨(some 73), none, .ext 68 2⟩,
                      ⟨(some 8), none, .alloc [.nils, (.int .i64 0)]⟩,
                      ⟨(some 9), none, .alloc [(.int .i64 0), (.int .i64 0), (.bool false), (.str (ByteArray.mk #[])), (.bool false), (.str (ByteArray.mk #[]))]⟩,
                      ⟨none, none, .store 2 (.t 8) (.t 71)⟩,
                      ⟨none, none, .store 6 (.t 9) (.t 72)⟩,
                      ⟨(some 10), none, .take 73⟩])
                    (.seq
                     (.reg [⟨(some 74), none, .load (some 2) (.t 8)⟩,
                       ⟨none, none, .store 2 (.t 6) (.t 74)⟩])
                     (.reg [⟨(some 75), none, .faddr (.t 4) 5⟩,
                       ⟨(some 76), none, .takeLoad (.t 75)⟩,
                       ⟨(some 77), none, .load (some 6) (.t 9)⟩,
                       ⟨(some 78), none, .bsl 6 1 [(.int .i64 0), (.int .i64 0), (.bool false), (.str (ByteArray.mk #[])), (.bool false), (.str (ByteArray.mk #[]))] [(0, (.t 77))]⟩,
                       ⟨(some 79), none, .app 6 64 76 (.t 78)⟩,
                       ⟨(some 80), none, .faddr (.t 4) 5⟩,
                       ⟨none, none, .storeO (.t 80) 79⟩]))))
                  (.reg [⟨(some 66), none, .take 7⟩,
                    ⟨(some 67), none, .bin .add (.t 66) (.c (.int .i64 1))⟩,
                    ⟨(some 7), none, .take 67⟩]))))))
             (.seq
              (.reg [⟨(some 82), none, .load (some 6) (.t 4)⟩,
                ⟨(some 83), none, .call 32 [(.t 82)]⟩,
                ⟨(some 81), none, .take 83⟩,
                ⟨(some 84), none, .ext 81 0⟩,
                ⟨(some 85), none, .ext 81 1⟩,
                ⟨(some 11), none, .take 84⟩,
                ⟨(some 12), none, .take 85⟩])
              (.seq
               (.seq
                (.reg [⟨(some 86), none, .mv (.t 12)⟩,
                  ⟨(some 87), none, .bin .neq (.t 86) (.c (.int .i64 0))⟩,
                  ⟨(some 88), none, .take 87⟩,
                  ⟨(some 89), (some (88, false)), .mv (.t 11)⟩,
                  ⟨(some 90), (some (88, false)), .b2s (.t 89)⟩,
                  ⟨(some 91), (some (88, false)), .mv (.t 0)⟩,
                  ⟨(some 92), (some (88, false)), .b2s (.t 91)⟩,
                  ⟨(some 93), (some (88, false)), .bin .neq (.t 90) (.t 92)⟩,
                  ⟨(some 94), none, .pick (.t 88) (.c (.bool true)) (.t 93)⟩])
                (.cond (.t 94)
                 (.seq
                  (.reg [⟨(some 95), none, .build [(.int .i64 0), (.int .i64 0), (.int .i64 0), (.int .i64 0), (.int .i64 0), .nils] []⟩,
                    ⟨none, none, .store 6 (.t 2) (.t 95)⟩,
                    ⟨(some 3), none, .mv (.c (.int .i64 4))⟩])
                  .ret)
                 .skip))
               (.seq
                (.reg [⟨(some 96), none, .load (some 6) (.t 4)⟩,
                  ⟨none, none, .store 6 (.t 2) (.t 96)⟩,
                  ⟨(some 3), none, .mv (.c (.int .i64 0))⟩])
                .ret)))))))))))))))
def ar37 : List AR := [.c 2 (some 6), .t 3]
theorem comp37 : Try.f37.body.bind (comp Try.prog 97) = some ac37 := by kernel_rfl
theorem cres37 : compRes Try.prog Try.f37.results.toList = some ar37 := by kernel_rfl
/-- bilander/bilanderref04.Check -/
def ac38 : AC :=
 (.seq
  (.reg [⟨(some 1), none, .box 6 (.t 0)⟩,
    ⟨(some 2), none, .mv (.c (.int .i64 0))⟩])
  (.seq
   (.block 0
    (.seq
     (.reg [⟨(some 7), none, .faddr (.t 1) 1⟩,
       ⟨(some 8), none, .load none (.t 7)⟩,
       ⟨(some 9), none, .bin .lss (.t 8) (.c (.int .i64 1))⟩,
       ⟨(some 10), none, .take 9⟩,
       ⟨(some 11), (some (10, false)), .faddr (.t 1) 1⟩,
       ⟨(some 12), (some (10, false)), .load none (.t 11)⟩,
       ⟨(some 13), (some (10, false)), .bin .gtr (.t 12) (.c (.int .i64 32))⟩,
       ⟨(some 14), none, .pick (.t 10) (.c (.bool true)) (.t 13)⟩,
       ⟨(some 15), none, .take 14⟩,
       ⟨(some 16), (some (15, false)), .faddr (.t 1) 0⟩,
       ⟨(some 17), (some (15, false)), .load none (.t 16)⟩,
       ⟨(some 18), (some (15, false)), .bin .lss (.t 17) (.c (.int .i64 0))⟩,
       ⟨(some 19), none, .pick (.t 15) (.c (.bool true)) (.t 18)⟩,
       ⟨(some 20), none, .take 19⟩,
       ⟨(some 21), (some (20, false)), .faddr (.t 1) 0⟩,
       ⟨(some 22), (some (20, false)), .load none (.t 21)⟩,
       ⟨(some 23), (some (20, false)), .faddr (.t 1) 1⟩,
       ⟨(some 24), (some (20, false)), .load none (.t 23)⟩,
       ⟨(some 25), (some (20, false)), .bin .sub (.c (.int .i64 4611686018427387903)) (.t 24)⟩,
       ⟨(some 26), (some (20, false)), .bin .gtr (.t 22) (.t 25)⟩,
       ⟨(some 27), none, .pick (.t 20) (.c (.bool true)) (.t 26)⟩,
       ⟨(some 6), none, .take 27⟩])
     (.cond (.t 6)
      (.seq
       (.reg [⟨(some 2), none, .mv (.c (.int .i64 11))⟩])
       .ret)
      (.seq
       (.reg [⟨(some 29), none, .faddr (.t 1) 2⟩,
         ⟨(some 30), none, .load none (.t 29)⟩,
         ⟨(some 31), none, .bin .lss (.t 30) (.c (.int .i64 0))⟩,
         ⟨(some 32), none, .take 31⟩,
         ⟨(some 33), (some (32, false)), .faddr (.t 1) 2⟩,
         ⟨(some 34), (some (32, false)), .load none (.t 33)⟩,
         ⟨(some 35), (some (32, false)), .bin .gtr (.t 34) (.c (.int .i64 1099511627776))⟩,
         ⟨(some 36), none, .pick (.t 32) (.c (.bool true)) (.t 35)⟩,
         ⟨(some 37), none, .take 36⟩,
         ⟨(some 38), (some (37, false)), .faddr (.t 1) 3⟩,
         ⟨(some 39), (some (37, false)), .load none (.t 38)⟩,
         ⟨(some 40), (some (37, false)), .bin .lss (.t 39) (.c (.int .i64 0))⟩,
         ⟨(some 41), none, .pick (.t 37) (.c (.bool true)) (.t 40)⟩,
         ⟨(some 42), none, .take 41⟩,
         ⟨(some 43), (some (42, false)), .faddr (.t 1) 3⟩,
         ⟨(some 44), (some (42, false)), .load none (.t 43)⟩,
         ⟨(some 45), (some (42, false)), .bin .gtr (.t 44) (.c (.int .i64 32767))⟩,
         ⟨(some 46), none, .pick (.t 42) (.c (.bool true)) (.t 45)⟩,
         ⟨(some 47), none, .take 46⟩,
         ⟨(some 48), (some (47, false)), .faddr (.t 1) 4⟩,
         ⟨(some 49), (some (47, false)), .load none (.t 48)⟩,
         ⟨(some 50), (some (47, false)), .bin .lss (.t 49) (.c (.int .i64 0))⟩,
         ⟨(some 51), none, .pick (.t 47) (.c (.bool true)) (.t 50)⟩,
         ⟨(some 52), none, .take 51⟩,
         ⟨(some 53), (some (52, false)), .faddr (.t 1) 4⟩,
         ⟨(some 54), (some (52, false)), .load none (.t 53)⟩,
         ⟨(some 55), (some (52, false)), .bin .gtr (.t 54) (.c (.int .i64 2147483647))⟩,
         ⟨(some 56), none, .pick (.t 52) (.c (.bool true)) (.t 55)⟩,
         ⟨(some 28), none, .take 56⟩])
       (.cond (.t 28)
        (.seq
         (.reg [⟨(some 2), none, .mv (.c (.int .i64 11))⟩])
         .ret)
        (.seq
         (.reg [⟨(some 58), none, .faddr (.t 1) 2⟩,
           ⟨(some 59), none, .load none (.t 58)⟩,
           ⟨(some 60), none, .bin .eql (.t 59) (.c (.int .i64 0))⟩,
           ⟨(some 61), none, .take 60⟩,
           ⟨(some 62), (some (61, true)), .faddr (.t 1) 3⟩,
           ⟨(some 63), (some (61, true)), .load none (.t 62)⟩,
           ⟨(some 64), (some (61, true)), .bin .neq (.t 63) (.c (.int .i64 0))⟩,
           ⟨(some 65), (some (61, true)), .take 64⟩,
           ⟨(some 66), (some (65, false)), .faddr (.t 1) 4⟩,
           ⟨(some 67), (some (65, false)), .load none (.t 66)⟩,
           ⟨(some 68), (some (65, false)), .bin .neq (.t 67) (.c (.int .i64 0))⟩,
           ⟨(some 69), (some (61, true)), .pick (.t 65) (.c (.bool true)) (.t 68)⟩,
           ⟨(some 70), none, .pick (.t 61) (.t 69) (.c (.bool false))⟩,
           ⟨(some 57), none, .take 70⟩])
         (.cond (.t 57)
          (.seq
           (.reg [⟨(some 2), none, .mv (.c (.int .i64 4))⟩])
           .ret)
          (.seq
           (.reg [⟨(some 72), none, .faddr (.t 1) 5⟩,
             ⟨(some 73), none, .load none (.t 72)⟩,
             ⟨(some 74), none, .len false (.t 73)⟩,
             ⟨(some 75), none, .faddr (.t 1) 1⟩,
             ⟨(some 76), none, .load none (.t 75)⟩,
             ⟨(some 77), none, .bin .gtr (.t 74) (.t 76)⟩,
             ⟨(some 71), none, .take 77⟩])
           (.cond (.t 71)
            (.seq
             (.reg [⟨(some 2), none, .mv (.c (.int .i64 5))⟩])
             .ret)
            .skip)))))))))
   (.seq
    (.reg [⟨(some 3), none, .mv (.c (.int .i64 (-1)))⟩])
    (.seq
     (.seq
      (.reg [⟨(some 4), none, .mv (.c (.int .i64 0))⟩])
      (.block 1
       (.loop
        (.seq
         (.seq
          (.reg [⟨(some 78), none, .mv (.t 4)⟩,
            ⟨(some 79), none, .faddr (.t 1) 5⟩,
            ⟨(some 80), none, .load none (.t 79)⟩,
            ⟨(some 81), none, .len false (.t 80)⟩,
            ⟨(some 82), none, .bin .lss (.t 78) (.t 81)⟩])
          (.cond (.t 82)
           .skip
           (.exit 1)))
         (.seq
          (.block 2
           (.seq
            (.reg [⟨(some 85), none, .faddr (.t 1) 5⟩,
              ⟨(some 86), none, .load none (.t 85)⟩,
              ⟨(some 87), none, .mv (.t 4)⟩,
              ⟨(some 88), none, .iaddr 6 (.t 86) (.t 87)⟩,
              ⟨(some 89), none, .load (some 6) (.t 88)⟩,
              ⟨(some 90), none, .call 80 [(.t 89)]⟩,
              ⟨(some 5), none, .take 90⟩])
            (.seq
             (.block 3
              (.seq
               (.reg [⟨(some 92), none, .mv (.t 5)⟩,
                 ⟨(some 93), none, .bin .neq (.t 92) (.c (.int .i64 0))⟩,
                 ⟨(some 91), none, .take 93⟩])
               (.cond (.t 91)
                (.seq
                 (.reg [⟨(some 94), none, .take 5⟩,
                   ⟨(some 2), none, .take 94⟩])
                 .ret)
                (.seq
                 (.dreg [] [⟨(some 96), none, .faddr (.t 1) 5⟩,
                   ⟨(some 97), none, .load none (.t 96)⟩,
                   ⟨(some 98), none, .mv (.t 4)⟩,
                   ⟨(some 99), none, .iaddr 6 (.t 97) (.t 98)⟩,
                   ⟨(some 100), none, .faddr (.t 99) 0⟩,
                   ⟨(some 101), none, .load none (.t 100)⟩,
                   ⟨(some 102), none, .mv (.t 3)⟩,
                   ⟨(some 103), none, .bin .leq (.t 101) (.t 102)⟩,
                   ⟨(some 104), none, .mv (.t 103)⟩,
                   ⟨(some 105), (some (104, false)), .faddr (.t 1) 5⟩,
                   ⟨(some 106), (some (104, false)), .load none (.t 105)⟩,
                   ⟨(some 107), (some (104, false)), .mv (.t 4)⟩,
                   ⟨(some 108), (some (104, false)), .iaddr 6 (.t 106) (.t 107)⟩,
                   ⟨(some 109), (some (104, false)), .faddr (.t 108) 0⟩,
                   ⟨(some 110), (some (104, false)), .load none (.t 109)⟩,
                   ⟨(some 111), (some (104, false)), .faddr (.t 1) 1⟩,
                   ⟨(some 112), (some (104, false)), .load none (.t 111)⟩,
                   ⟨(some 113), (some (104, false)), .bin .geq (.t 110) (.t 112)⟩,
                   ⟨(some 114), none, .pick (.t 104) (.c (.bool true)) (.t 113)⟩,
                   ⟨(some 95), none, .take 114⟩])
                 (.cond (.t 95)
                  (.seq
                   (.reg [⟨(some 2), none, .mv (.c (.int .i64 16))⟩])
                   .ret)
                  .skip)))))
             (.reg [⟨(some 115), none, .faddr (.t 1) 5⟩,
               ⟨(some 116), none, .load none (.t 115)⟩,
               ⟨(some 117), none, .mv (.t 4)⟩,
               ⟨(some 118), none, .iaddr 6 (.t 116) (.t 117)⟩,
               ⟨(some 119), none, .faddr (.t 118) 0⟩,
               ⟨(some 120), none, .load none (.t 119)⟩,
               ⟨(some 3), none, .take 120⟩]))))
          (.reg [⟨(some 83), none, .take 4⟩,
            ⟨(some 84), none, .bin .add (.t 83) (.c (.int .i64 1))⟩,
            ⟨(some 4), none, .take 84⟩]))))))
     (.seq
      (.seq
       (.reg [⟨(some 121), none, .load (some 6) (.t 1)⟩,
         ⟨(some 122), none, .call 72 [(.t 121)]⟩,
         ⟨(some 123), none, .len false (.t 122)⟩,
         ⟨(some 124), none, .bin .gtr (.t 123) (.c (.int .i64 8192))⟩])
       (.cond (.t 124)
        (.seq
         (.reg [⟨(some 2), none, .mv (.c (.int .i64 5))⟩])
         .ret)
        .skip))
      (.seq
       (.reg [⟨(some 2), none, .mv (.c (.int .i64 0))⟩])
       .ret))))))
def ar38 : List AR := [.t 2]
theorem comp38 : Try.f38.body.bind (comp Try.prog 125) = some ac38 := by kernel_rfl
theorem cres38 : compRes Try.prog Try.f38.results.toList = some ar38 := by kernel_rfl
/-- bilander/batch.At -/
def ac39 : AC :=
 (.seq
  (.reg [⟨(some 2), none, .box 6 (.t 0)⟩,
    ⟨(some 3), none, .box 1 (.t 1)⟩,
    ⟨(some 4), none, .alloc [(.int .i64 0), (.int .i64 0), (.bool false), (.str (ByteArray.mk #[])), (.bool false), (.str (ByteArray.mk #[]))]⟩,
    ⟨(some 5), none, .mv (.c (.bool false))⟩])
  (.seq
   (.seq
    (.frz [3])
    (.reg [⟨(some 7), none, .load (some 6) (.t 2)⟩,
      ⟨(some 8), none, .mkfn 82 [] [(.t 3)]⟩,
      ⟨(some 9), none, .call 81 [(.t 7), (.t 8)]⟩,
      ⟨(some 6), none, .take 9⟩]))
   (.seq
    (.seq
     (.reg [⟨(some 10), none, .mv (.t 6)⟩,
       ⟨(some 11), none, .bin .lss (.t 10) (.c (.int .i64 0))⟩])
     (.cond (.t 11)
      (.seq
       (.reg [⟨(some 12), none, .build [(.int .i64 0), (.int .i64 0), (.bool false), (.str (ByteArray.mk #[])), (.bool false), (.str (ByteArray.mk #[]))] []⟩,
         ⟨none, none, .store 6 (.t 4) (.t 12)⟩,
         ⟨(some 5), none, .mv (.c (.bool false))⟩])
       .ret)
      .skip))
    (.seq
     (.reg [⟨(some 13), none, .faddr (.t 2) 5⟩,
       ⟨(some 14), none, .load none (.t 13)⟩,
       ⟨(some 15), none, .mv (.t 6)⟩,
       ⟨(some 16), none, .iaddr 6 (.t 14) (.t 15)⟩,
       ⟨(some 17), none, .load (some 6) (.t 16)⟩,
       ⟨none, none, .store 6 (.t 4) (.t 17)⟩,
       ⟨(some 5), none, .mv (.c (.bool true))⟩])
     .ret))))
def ar39 : List AR := [.c 4 (some 6), .t 5]
theorem comp39 : Try.f39.body.bind (comp Try.prog 18) = some ac39 := by kernel_rfl
theorem cres39 : compRes Try.prog Try.f39.results.toList = some ar39 := by kernel_rfl
/-- bilander/bilanderref04.At -/
def ac40 : AC :=
 (.seq
  (.reg [⟨(some 2), none, .box 6 (.t 0)⟩,
    ⟨(some 4), none, .alloc [(.int .i64 0), (.int .i64 0), (.bool false), (.str (ByteArray.mk #[])), (.bool false), (.str (ByteArray.mk #[]))]⟩,
    ⟨(some 5), none, .mv (.c (.bool false))⟩])
  (.seq
   (.seq
    (.reg [⟨(some 6), none, .mv (.c (.int .i64 0))⟩])
    (.block 0
     (.loop
      (.seq
       (.seq
        (.reg [⟨(some 7), none, .mv (.t 6)⟩,
          ⟨(some 8), none, .faddr (.t 2) 5⟩,
          ⟨(some 9), none, .load none (.t 8)⟩,
          ⟨(some 10), none, .len false (.t 9)⟩,
          ⟨(some 11), none, .bin .lss (.t 7) (.t 10)⟩])
        (.cond (.t 11)
         .skip
         (.exit 0)))
       (.seq
        (.block 1
         (.seq
          (.dreg [] [⟨(some 14), none, .faddr (.t 2) 0⟩,
            ⟨(some 15), none, .load none (.t 14)⟩,
            ⟨(some 16), none, .faddr (.t 2) 5⟩,
            ⟨(some 17), none, .load none (.t 16)⟩,
            ⟨(some 18), none, .mv (.t 6)⟩,
            ⟨(some 19), none, .iaddr 6 (.t 17) (.t 18)⟩,
            ⟨(some 20), none, .faddr (.t 19) 0⟩,
            ⟨(some 21), none, .load none (.t 20)⟩,
            ⟨(some 22), none, .bin .add (.t 15) (.t 21)⟩,
            ⟨(some 23), none, .mv (.t 1)⟩,
            ⟨(some 24), none, .bin .eql (.t 22) (.t 23)⟩])
          (.cond (.t 24)
           (.seq
            (.reg [⟨(some 25), none, .faddr (.t 2) 5⟩,
              ⟨(some 26), none, .load none (.t 25)⟩,
              ⟨(some 27), none, .mv (.t 6)⟩,
              ⟨(some 28), none, .iaddr 6 (.t 26) (.t 27)⟩,
              ⟨(some 29), none, .load (some 6) (.t 28)⟩,
              ⟨none, none, .store 6 (.t 4) (.t 29)⟩,
              ⟨(some 5), none, .mv (.c (.bool true))⟩])
            .ret)
           .skip)))
        (.reg [⟨(some 12), none, .take 6⟩,
          ⟨(some 13), none, .bin .add (.t 12) (.c (.int .i64 1))⟩,
          ⟨(some 6), none, .take 13⟩]))))))
   (.seq
    (.reg [⟨(some 30), none, .build [(.int .i64 0), (.int .i64 0), (.bool false), (.str (ByteArray.mk #[])), (.bool false), (.str (ByteArray.mk #[]))] []⟩,
      ⟨none, none, .store 6 (.t 4) (.t 30)⟩,
      ⟨(some 5), none, .mv (.c (.bool false))⟩])
    .ret)))
def ar40 : List AR := [.c 4 (some 6), .t 5]
theorem comp40 : Try.f40.body.bind (comp Try.prog 31) = some ac40 := by kernel_rfl
theorem cres40 : compRes Try.prog Try.f40.results.toList = some ar40 := by kernel_rfl
/-- bilander/batch.Next -/
def ac41 : AC :=
 (.seq
  (.reg [⟨(some 1), none, .box 6 (.t 0)⟩,
    ⟨(some 2), none, .mv (.c (.int .i64 0))⟩])
  (.seq
   (.reg [⟨(some 3), none, .faddr (.t 1) 0⟩,
     ⟨(some 4), none, .load none (.t 3)⟩,
     ⟨(some 5), none, .faddr (.t 1) 1⟩,
     ⟨(some 6), none, .load none (.t 5)⟩,
     ⟨(some 7), none, .bin .add (.t 4) (.t 6)⟩,
     ⟨(some 2), none, .take 7⟩])
   .ret))
def ar41 : List AR := [.t 2]
theorem comp41 : Try.f41.body.bind (comp Try.prog 8) = some ac41 := by kernel_rfl
theorem cres41 : compRes Try.prog Try.f41.results.toList = some ar41 := by kernel_rfl
/-- bilander/bilanderref04.Next -/
def ac42 : AC :=
 (.seq
  (.reg [⟨(some 1), none, .box 6 (.t 0)⟩,
    ⟨(some 2), none, .mv (.c (.int .i64 0))⟩])
  (.seq
   (.reg [⟨(some 3), none, .faddr (.t 1) 0⟩,
     ⟨(some 4), none, .load none (.t 3)⟩,
     ⟨(some 5), none, .faddr (.t 1) 1⟩,
     ⟨(some 6), none, .load none (.t 5)⟩,
     ⟨(some 7), none, .bin .add (.t 4) (.t 6)⟩,
     ⟨(some 2), none, .take 7⟩])
   .ret))
def ar42 : List AR := [.t 2]
theorem comp42 : Try.f42.body.bind (comp Try.prog 8) = some ac42 := by kernel_rfl
theorem cres42 : compRes Try.prog Try.f42.results.toList = some ar42 := by kernel_rfl
/-- bilander/batch.Newest -/
def ac43 : AC :=
 (.seq
  (.reg [⟨(some 1), none, .box 6 (.t 0)⟩,
    ⟨(some 2), none, .mv (.c (.int .i64 0))⟩])
  (.seq
   (.reg [⟨(some 3), none, .mv (.c (.int .i64 (-1)))⟩])
   (.seq
    (.seq
     (.reg [⟨(some 6), none, .faddr (.t 1) 5⟩,
       ⟨(some 7), none, .load none (.t 6)⟩,
       ⟨(some 8), none, .len false (.t 7)⟩,
       ⟨(some 9), none, .mv (.c (.int .i64 0))⟩])
     (.block 0
      (.loop
       (.seq
        (.reg [⟨(some 10), none, .bin .lss (.t 9) (.t 8)⟩])
        (.seq
         (.cond (.t 10)
          .skip
          (.exit 0))
         (.seq
          (.block 1
           (.seq
            (.reg [⟨(some 11), none, .iaddr 6 (.t 7) (.t 9)⟩,
              ⟨(some 12), none, .load (some 6) (.t 11)⟩,
              ⟨(some 5), none, .alloc [(.int .i64 0), (.int .i64 0), (.bool false), (.str (ByteArray.mk #[])), (.bool false), (.str (ByteArray.mk #[]))]⟩,
              ⟨none, none, .store 6 (.t 5) (.t 12)⟩])
            (.reg [⟨(some 13), none, .take 3⟩,
              ⟨(some 14), none, .faddr (.t 5) 1⟩,
              ⟨(some 15), none, .load none (.t 14)⟩,
              ⟨(some 16), none, .minmax true (.t 13) (.t 15)⟩,
              ⟨(some 3), none, .take 16⟩])))
          (.reg [⟨(some 17), none, .bin .add (.t 9) (.c (.int .i64 1))⟩,
            ⟨(some 9), none, .take 17⟩])))))))
    (.seq
     (.reg [⟨(some 18), none, .take 3⟩,
       ⟨(some 2), none, .take 18⟩])
     .ret))))
def ar43 : List AR := [.t 2]
theorem comp43 : Try.f43.body.bind (comp Try.prog 19) = some ac43 := by kernel_rfl
theorem cres43 : compRes Try.prog Try.f43.results.toList = some ar43 := by kernel_rfl
/-- bilander/bilanderref04.Newest -/
def ac44 : AC :=
 (.seq
  (.reg [⟨(some 1), none, .box 6 (.t 0)⟩,
    ⟨(some 2), none, .mv (.c (.int .i64 0))⟩])
  (.seq
   (.reg [⟨(some 3), none, .mv (.c (.int .i64 (-1)))⟩])
   (.seq
    (.seq
     (.reg [⟨(some 4), none, .mv (.c (.int .i64 0))⟩])
     (.block 0
      (.loop
       (.seq
        (.seq
         (.reg [⟨(some 5), none, .mv (.t 4)⟩,
           ⟨(some 6), none, .faddr (.t 1) 5⟩,
           ⟨(some 7), none, .load none (.t 6)⟩,
           ⟨(some 8), none, .len false (.t 7)⟩,
           ⟨(some 9), none, .bin .lss (.t 5) (.t 8)⟩])
         (.cond (.t 9)
          .skip
          (.exit 0)))
        (.seq
         (.block 1
          (.reg [⟨(some 12), none, .take 3⟩,
            ⟨(some 13), none, .faddr (.t 1) 5⟩,
            ⟨(some 14), none, .load none (.t 13)⟩,
            ⟨(some 15), none, .mv (.t 4)⟩,
            ⟨(some 16), none, .iaddr 6 (.t 14) (.t 15)⟩,
            ⟨(some 17), none, .faddr (.t 16) 1⟩,
            ⟨(some 18), none, .load none (.t 17)⟩,
            ⟨(some 19), none, .minmax true (.t 12) (.t 18)⟩,
            ⟨(some 3), none, .take 19⟩]))
         (.reg [⟨(some 10), none, .take 4⟩,
           ⟨(some 11), none, .bin .add (.t 10) (.c (.int .i64 1))⟩,
           ⟨(some 4), none, .take 11⟩]))))))
    (.seq
     (.reg [⟨(some 20), none, .take 3⟩,
       ⟨(some 2), none, .take 20⟩])
     .ret))))
def ar44 : List AR := [.t 2]
theorem comp44 : Try.f44.body.bind (comp Try.prog 21) = some ac44 := by kernel_rfl
theorem cres44 : compRes Try.prog Try.f44.results.toList = some ar44 := by kernel_rfl
/-- bilander/batch.From -/
def ac47 : AC :=
 (.seq
  (.reg [⟨(some 2), none, .box 6 (.t 0)⟩,
    ⟨(some 3), none, .box 1 (.t 1)⟩,
    ⟨(some 4), none, .mv (.c .nils)⟩])
  (.seq
   (.seq
    (.frz [2, 3])
    (.reg [⟨(some 5), none, .faddr (.t 2) 5⟩,
      ⟨(some 6), none, .load none (.t 5)⟩,
      ⟨(some 7), none, .call 84 [(.t 6)]⟩,
      ⟨(some 8), none, .mkfn 85 [] [(.t 2), (.t 3)]⟩,
      ⟨(some 9), none, .call 83 [(.t 7), (.t 8)]⟩,
      ⟨(some 4), none, .take 9⟩]))
   .ret))
def ar47 : List AR := [.t 4]
theorem comp47 : Try.f47.body.bind (comp Try.prog 10) = some ac47 := by kernel_rfl
theorem cres47 : compRes Try.prog Try.f47.results.toList = some ar47 := by kernel_rfl
/-- bilander/bilanderref04.From -/
def ac48 : AC :=
 (.seq
  (.reg [⟨(some 2), none, .box 6 (.t 0)⟩,
    ⟨(some 4), none, .mv (.c .nils)⟩])
  (.seq
   (.reg [⟨(some 5), none, .mv (.c .nils)⟩])
   (.seq
    (.seq
     (.reg [⟨(some 6), none, .mv (.c (.int .i64 0))⟩])
     (.block 0
      (.loop
       (.seq
        (.seq
         (.reg [⟨(some 7), none, .mv (.t 6)⟩,
           ⟨(some 8), none, .faddr (.t 2) 5⟩,
           ⟨(some 9), none, .load none (.t 8)⟩,
           ⟨(some 10), none, .len false (.t 9)⟩,
           ⟨(some 11), none, .bin .lss (.t 7) (.t 10)⟩])
         (.cond (.t 11)
          .skip
          (.exit 0)))
        (.seq
         (.block 1
          (.seq
           (.dreg [] [⟨(some 14), none, .faddr (.t 2) 0⟩,
             ⟨(some 15), none, .load none (.t 14)⟩,
             ⟨(some 16), none, .faddr (.t 2) 5⟩,
             ⟨(some 17), none, .load none (.t 16)⟩,
             ⟨(some 18), none, .mv (.t 6)⟩,
             ⟨(some 19), none, .iaddr 6 (.t 17) (.t 18)⟩,
             ⟨(some 20), none, .faddr (.t 19) 0⟩,
             ⟨(some 21), none, .load none (.t 20)⟩,
             ⟨(some 22), none, .bin .add (.t 15) (.t 21)⟩,
             ⟨(some 23), none, .mv (.t 1)⟩,
             ⟨(some 24), none, .bin .geq (.t 22) (.t 23)⟩])
           (.cond (.t 24)
            (.reg [⟨(some 25), none, .take 5⟩,
              ⟨(some 26), none, .faddr (.t 2) 5⟩,
              ⟨(some 27), none, .load none (.t 26)⟩,
              ⟨(some 28), none, .mv (.t 6)⟩,
              ⟨(some 29), none, .iaddr 6 (.t 27) (.t 28)⟩,
              ⟨(some 30), none, .load (some 6) (.t 29)⟩,
              ⟨(some 31), none, .bsl 6 1 [(.int .i64 0), (.int .i64 0), (.bool false), (.str (ByteArray.mk #[])), (.bool false), (.str (ByteArray.mk #[]))] [(0, (.t 30))]⟩,
              ⟨(some 32), none, .app 6 64 25 (.t 31)⟩,
              ⟨(some 5), none, .take 32⟩])
            .skip)))
         (.reg [⟨(some 12), none, .take 6⟩,
           ⟨(some 13), none, .bin .add (.t 12) (.c (.int .i64 1))⟩,
           ⟨(some 6), none, .take 13⟩]))))))
    (.seq
     (.reg [⟨(some 33), none, .take 5⟩,
       ⟨(some 4), none, .take 33⟩])
     .ret))))
def ar48 : List AR := [.t 4]
theorem comp48 : Try.f48.body.bind (comp Try.prog 34) = some ac48 := by kernel_rfl
theorem cres48 : compRes Try.prog Try.f48.results.toList = some ar48 := by kernel_rfl
/-- bilander/batch.lay -/
def ac71 : AC :=
 (.seq
  (.reg [⟨(some 1), none, .box 6 (.t 0)⟩,
    ⟨(some 2), none, .mv (.c .nils)⟩])
  (.seq
   (.reg [⟨(some 3), none, .mv (.c .nils)⟩])
   (.seq
    (.seq
     (.reg [⟨(some 10), none, .load (some 6) (.t 1)⟩,
       ⟨(some 11), none, .call 75 [(.t 10)]⟩,
       ⟨(some 12), none, .mv (.c (.int .i64 0))⟩])
     (.block 0
      (.loop
       (.seq
        (.reg [⟨(some 13), none, .bin .lss (.t 12) (.c (.int .i64 6))⟩])
        (.seq
         (.cond (.t 13)
          .skip
          (.exit 0))
         (.seq
          (.block 1
           (.seq
            (.reg [⟨(some 14), none, .idxA 6 1 none (.t 11) (.t 12)⟩,
              ⟨(some 5), none, .take 14⟩])
            (.reg [⟨(some 15), none, .take 3⟩,
              ⟨(some 16), none, .mv (.t 5)⟩,
              ⟨(some 17), none, .call 50 [(.t 16)]⟩,
              ⟨(some 18), none, .app 1 1 15 (.t 17)⟩,
              ⟨(some 3), none, .take 18⟩])))
          (.reg [⟨(some 19), none, .bin .add (.t 12) (.c (.int .i64 1))⟩,
            ⟨(some 12), none, .take 19⟩])))))))
    (.seq
     (.seq
      (.reg [⟨(some 20), none, .faddr (.t 1) 5⟩,
        ⟨(some 21), none, .load none (.t 20)⟩,
        ⟨(some 22), none, .len false (.t 21)⟩,
        ⟨(some 23), none, .mv (.c (.int .i64 0))⟩])
      (.block 2
       (.loop
        (.seq
         (.reg [⟨(some 24), none, .bin .lss (.t 23) (.t 22)⟩])
         (.seq
          (.cond (.t 24)
           .skip
           (.exit 2))
          (.seq
           (.block 3
            (.seq
             (.reg [⟨(some 25), none, .iaddr 6 (.t 21) (.t 23)⟩,
               ⟨(some 26), none, .load (some 6) (.t 25)⟩,
               ⟨(some 7), none, .alloc [(.int .i64 0), (.int .i64 0), (.bool false), (.str (ByteArray.mk #[])), (.bool false), (.str (ByteArray.mk #[]))]⟩,
               ⟨none, none, .store 6 (.t 7) (.t 26)⟩])
             (.seq
              (.reg [⟨(some 28), none, .load (some 6) (.t 7)⟩,
                ⟨(some 29), none, .call 98 [(.t 28)]⟩,
                ⟨(some 27), none, .take 29⟩,
                ⟨(some 30), none, .ext 27 0⟩,
                ⟨(some 31), none, .ext 27 1⟩,
                ⟨(some 8), none, .take 30⟩,
                ⟨(some 9), none, .take 31⟩])
              (.reg [⟨(some 32), none, .take 3⟩,
                ⟨(some 33), none, .mv (.t 8)⟩,
                ⟨(some 34), none, .app 1 1 32 (.t 33)⟩,
                ⟨(some 3), none, .take 34⟩]))))
           (.reg [⟨(some 35), none, .bin .add (.t 23) (.c (.int .i64 1))⟩,
             ⟨(some 23), none, .take 35⟩])))))))
     (.seq
      (.reg [⟨(some 36), none, .take 3⟩,
        ⟨(some 2), none, .take 36⟩])
      .ret)))))
def ar71 : List AR := [.t 2]
theorem comp71 : Try.f71.body.bind (comp Try.prog 37) = some ac71 := by kernel_rfl
theorem cres71 : compRes Try.prog Try.f71.results.toList = some ar71 := by kernel_rfl
/-- bilander/bilanderref04.lay -/
def ac72 : AC :=
 (.seq
  (.reg [⟨(some 1), none, .box 6 (.t 0)⟩,
    ⟨(some 2), none, .mv (.c .nils)⟩])
  (.seq
   (.reg [⟨(some 3), none, .mv (.c .nils)⟩])
   (.seq
    (.reg [⟨(some 9), none, .faddr (.t 1) 0⟩,
      ⟨(some 10), none, .load none (.t 9)⟩,
      ⟨(some 11), none, .faddr (.t 1) 1⟩,
      ⟨(some 12), none, .load none (.t 11)⟩,
      ⟨(some 13), none, .faddr (.t 1) 2⟩,
      ⟨(some 14), none, .load none (.t 13)⟩,
      ⟨(some 15), none, .faddr (.t 1) 3⟩,
      ⟨(some 16), none, .load none (.t 15)⟩,
      ⟨(some 17), none, .faddr (.t 1) 4⟩,
      ⟨(some 18), none, .load none (.t 17)⟩,
      ⟨(some 19), none, .faddr (.t 1) 5⟩,
      ⟨(some 20), none, .load none (.t 19)⟩,
      ⟨(some 21), none, .len false (.t 20)⟩,
      ⟨(some 22), none, .bsl 1 6 [(.int .i64 0)] [(0, (.t 10)), (1, (.t 12)), (2, (.t 14)), (3, (.t 16)), (4, (.t 18)), (5, (.t 21))]⟩,
      ⟨(some 4), none, .take 22⟩])
    (.seq
     (.seq
      (.reg [⟨(some 5), none, .mv (.c (.int .i64 0))⟩])
      (.block 0
       (.loop
        (.seq
         (.seq
          (.reg [⟨(some 23), none, .mv (.t 5)⟩,
            ⟨(some 24), none, .mv (.t 4)⟩,
            ⟨(some 25), none, .len false (.t 24)⟩,
            ⟨(some 26), none, .bin .lss (.t 23) (.t 25)⟩])
          (.cond (.t 26)
           .skip
           (.exit 0)))
         (.seq
          (.block 1
           (.reg [⟨(some 29), none, .take 3⟩,
             ⟨(some 30), none, .mv (.t 4)⟩,
             ⟨(some 31), none, .mv (.t 5)⟩,
             ⟨(some 32), none, .iaddr 1 (.t 30) (.t 31)⟩,
             ⟨(some 33), none, .load none (.t 32)⟩,
             ⟨(some 34), none, .call 55 [(.t 33)]⟩,
             ⟨(some 35), none, .app 1 1 29 (.t 34)⟩,
             ⟨(some 3), none, .take 35⟩]))
          (.reg [⟨(some 27), none, .take 5⟩,
            ⟨(some 28), none, .bin .add (.t 27) (.c (.int .i64 1))⟩,
            ⟨(some 5), none, .take 28⟩]))))))
     (.seq
      (.seq
       (.reg [⟨(some 6), none, .mv (.c (.int .i64 0))⟩])
       (.block 2
        (.loop
         (.seq
          (.seq
           (.reg [⟨(some 36), none, .mv (.t 6)⟩,
             ⟨(some 37), none, .faddr (.t 1) 5⟩,
             ⟨(some 38), none, .load none (.t 37)⟩,
             ⟨(some 39), none, .len false (.t 38)⟩,
             ⟨(some 40), none, .bin .lss (.t 36) (.t 39)⟩])
           (.cond (.t 40)
            .skip
            (.exit 2)))
          (.seq
           (.block 3
            (.seq
             (.reg [⟨(some 44), none, .faddr (.t 1) 5⟩,
               ⟨(some 45), none, .load none (.t 44)⟩,
               ⟨(some 46), none, .mv (.t 6)⟩,
               ⟨(some 47), none, .iaddr 6 (.t 45) (.t 46)⟩,
               ⟨(some 48), none, .load (some 6) (.t 47)⟩,
               ⟨(some 49), none, .call 99 [(.t 48)]⟩,
               ⟨(some 43), none, .take 49⟩,
               ⟨(some 50), none, .ext 43 0⟩,
               ⟨(some 51), none, .ext 43 1⟩,
               ⟨(some 7), none, .take 50⟩,
               ⟨(some 8), none, .take 51⟩])
             (.reg [⟨(some 52), none, .take 3⟩,
               ⟨(some 53), none, .mv (.t 7)⟩,
               ⟨(some 54), none, .app 1 1 52 (.t 53)⟩,
               ⟨(some 3), none, .take 54⟩])))
           (.reg [⟨(some 41), none, .take 6⟩,
             ⟨(some 42), none, .bin .add (.t 41) (.c (.int .i64 1))⟩,
             ⟨(some 6), none, .take 42⟩]))))))
      (.seq
       (.reg [⟨(some 55), none, .take 3⟩,
         ⟨(some 2), none, .take 55⟩])
       .ret))))))
def ar72 : List AR := [.t 2]
theorem comp72 : Try.f72.body.bind (comp Try.prog 56) = some ac72 := by kernel_rfl
theorem cres72 : compRes Try.prog Try.f72.results.toList = some ar72 := by kernel_rfl
/-- bilander/batch.numbers -/
def ac73 : AC :=
 (.seq
  (.reg [⟨(some 1), none, .box 6 (.t 0)⟩,
    ⟨(some 2), none, .mv (.c (.int .i64 0))⟩])
  (.seq
   (.block 0
    (.seq
     (.reg [⟨(some 4), none, .faddr (.t 1) 1⟩,
       ⟨(some 5), none, .load none (.t 4)⟩,
       ⟨(some 6), none, .bin .lss (.t 5) (.c (.int .i64 1))⟩,
       ⟨(some 7), none, .take 6⟩,
       ⟨(some 8), (some (7, false)), .faddr (.t 1) 1⟩,
       ⟨(some 9), (some (7, false)), .load none (.t 8)⟩,
       ⟨(some 10), (some (7, false)), .bin .gtr (.t 9) (.c (.int .i64 32))⟩,
       ⟨(some 11), none, .pick (.t 7) (.c (.bool true)) (.t 10)⟩,
       ⟨(some 12), none, .take 11⟩,
       ⟨(some 13), (some (12, false)), .faddr (.t 1) 0⟩,
       ⟨(some 14), (some (12, false)), .load none (.t 13)⟩,
       ⟨(some 15), (some (12, false)), .faddr (.t 1) 1⟩,
       ⟨(some 16), (some (12, false)), .load none (.t 15)⟩,
       ⟨(some 17), (some (12, false)), .bin .sub (.c (.int .i64 4611686018427387903)) (.t 16)⟩,
       ⟨(some 18), (some (12, false)), .call 100 [(.t 14), (.t 17)]⟩,
       ⟨(some 19), (some (12, false)), .una .not (.t 18)⟩,
       ⟨(some 20), none, .pick (.t 12) (.c (.bool true)) (.t 19)⟩,
       ⟨(some 3), none, .take 20⟩])
     (.cond (.t 3)
      (.seq
       (.reg [⟨(some 2), none, .mv (.c (.int .i64 11))⟩])
       .ret)
      (.seq
       (.reg [⟨(some 22), none, .faddr (.t 1) 2⟩,
         ⟨(some 23), none, .load none (.t 22)⟩,
         ⟨(some 24), none, .call 100 [(.t 23), (.c (.int .i64 1099511627776))]⟩,
         ⟨(some 25), none, .una .not (.t 24)⟩,
         ⟨(some 26), none, .take 25⟩,
         ⟨(some 27), (some (26, false)), .faddr (.t 1) 3⟩,
         ⟨(some 28), (some (26, false)), .load none (.t 27)⟩,
         ⟨(some 29), (some (26, false)), .call 100 [(.t 28), (.c (.int .i64 32767))]⟩,
         ⟨(some 30), (some (26, false)), .una .not (.t 29)⟩,
         ⟨(some 31), none, .pick (.t 26) (.c (.bool true)) (.t 30)⟩,
         ⟨(some 32), none, .take 31⟩,
         ⟨(some 33), (some (32, false)), .faddr (.t 1) 4⟩,
         ⟨(some 34), (some (32, false)), .load none (.t 33)⟩,
         ⟨(some 35), (some (32, false)), .call 100 [(.t 34), (.c (.int .i64 2147483647))]⟩,
         ⟨(some 36), (some (32, false)), .una .not (.t 35)⟩,
         ⟨(some 37), none, .pick (.t 32) (.c (.bool true)) (.t 36)⟩,
         ⟨(some 21), none, .take 37⟩])
       (.cond (.t 21)
        (.seq
         (.reg [⟨(some 2), none, .mv (.c (.int .i64 11))⟩])
         .ret)
        (.seq
         (.reg [⟨(some 39), none, .faddr (.t 1) 2⟩,
           ⟨(some 40), none, .load none (.t 39)⟩,
           ⟨(some 41), none, .bin .eql (.t 40) (.c (.int .i64 0))⟩,
           ⟨(some 42), none, .take 41⟩,
           ⟨(some 43), (some (42, true)), .faddr (.t 1) 3⟩,
           ⟨(some 44), (some (42, true)), .load none (.t 43)⟩,
           ⟨(some 45), (some (42, true)), .bin .neq (.t 44) (.c (.int .i64 0))⟩,
           ⟨(some 46), (some (42, true)), .take 45⟩,
           ⟨(some 47), (some (46, false)), .faddr (.t 1) 4⟩,
           ⟨(some 48), (some (46, false)), .load none (.t 47)⟩,
           ⟨(some 49), (some (46, false)), .bin .neq (.t 48) (.c (.int .i64 0))⟩,
           ⟨(some 50), (some (42, true)), .pick (.t 46) (.c (.bool true)) (.t 49)⟩,
           ⟨(some 51), none, .pick (.t 42) (.t 50) (.c (.bool false))⟩,
           ⟨(some 38), none, .take 51⟩])
         (.cond (.t 38)
          (.seq
           (.reg [⟨(some 2), none, .mv (.c (.int .i64 4))⟩])
           .ret)
          (.seq
           (.reg [⟨(some 53), none, .faddr (.t 1) 5⟩,
             ⟨(some 54), none, .load none (.t 53)⟩,
             ⟨(some 55), none, .len false (.t 54)⟩,
             ⟨(some 56), none, .faddr (.t 1) 1⟩,
             ⟨(some 57), none, .load none (.t 56)⟩,
             ⟨(some 58), none, .bin .gtr (.t 55) (.t 57)⟩,
             ⟨(some 52), none, .take 58⟩])
           (.cond (.t 52)
            (.seq
             (.reg [⟨(some 2), none, .mv (.c (.int .i64 5))⟩])
             .ret)
            .skip)))))))))
   (.seq
    (.reg [⟨(some 2), none, .mv (.c (.int .i64 0))⟩])
    .ret)))
def ar73 : List AR := [.t 2]
theorem comp73 : Try.f73.body.bind (comp Try.prog 59) = some ac73 := by kernel_rfl
theorem cres73 : compRes Try.prog Try.f73.results.toList = some ar73 := by kernel_rfl
/-- bilander/batch.head -/
def ac75 : AC :=
 (.seq
  (.reg [⟨(some 1), none, .box 6 (.t 0)⟩,
    ⟨(some 2), none, .alloc [(.int .i64 0), (.int .i64 0), (.int .i64 0), (.int .i64 0), (.int .i64 0), (.int .i64 0)]⟩])
  (.seq
   (.reg [⟨(some 3), none, .faddr (.t 1) 0⟩,
     ⟨(some 4), none, .load none (.t 3)⟩,
     ⟨(some 5), none, .faddr (.t 1) 1⟩,
     ⟨(some 6), none, .load none (.t 5)⟩,
     ⟨(some 7), none, .faddr (.t 1) 2⟩,
     ⟨(some 8), none, .load none (.t 7)⟩,
     ⟨(some 9), none, .faddr (.t 1) 3⟩,
     ⟨(some 10), none, .load none (.t 9)⟩,
     ⟨(some 11), none, .faddr (.t 1) 4⟩,
     ⟨(some 12), none, .load none (.t 11)⟩,
     ⟨(some 13), none, .faddr (.t 1) 5⟩,
     ⟨(some 14), none, .load none (.t 13)⟩,
     ⟨(some 15), none, .len false (.t 14)⟩,
     ⟨(some 16), none, .build [(.int .i64 0), (.int .i64 0), (.int .i64 0), (.int .i64 0), (.int .i64 0), (.int .i64 0)] [(0, 1, (.t 4)), (1, 1, (.t 6)), (2, 1, (.t 8)), (3, 1, (.t 10)), (4, 1, (.t 12)), (5, 1, (.t 15))]⟩,
     ⟨none, none, .store 6 (.t 2) (.t 16)⟩])
   .ret))
def ar75 : List AR := [.c 2 (some 6)]
theorem comp75 : Try.f75.body.bind (comp Try.prog 17) = some ac75 := by kernel_rfl
theorem cres75 : compRes Try.prog Try.f75.results.toList = some ar75 := by kernel_rfl
/-- slices.Equal[[]bilander/api.Record,bilander/api.Record] -/
def ac76 : AC :=
 (.seq
  (.reg [⟨(some 4), none, .mv (.c (.bool false))⟩])
  (.seq
   (.seq
    (.reg [⟨(some 6), none, .mv (.t 0)⟩,
      ⟨(some 7), none, .len false (.t 6)⟩,
      ⟨(some 8), none, .mv (.t 1)⟩,
      ⟨(some 9), none, .len false (.t 8)⟩,
      ⟨(some 10), none, .bin .neq (.t 7) (.t 9)⟩])
    (.cond (.t 10)
     (.seq
      (.reg [⟨(some 4), none, .mv (.c (.bool false))⟩])
      .ret)
     .skip))
   (.seq
    (.seq
     (.reg [⟨(some 11), none, .mv (.t 0)⟩,
       ⟨(some 12), none, .len false (.t 11)⟩,
       ⟨(some 13), none, .mv (.c (.int .i64 0))⟩])
     (.block 0
      (.loop
       (.seq
        (.reg [⟨(some 14), none, .bin .lss (.t 13) (.t 12)⟩])
        (.seq
         (.cond (.t 14)
          .skip
          (.exit 0))
         (.seq
          (.block 1
           (.seq
            (.reg [⟨(some 15), none, .take 13⟩,
              ⟨(some 5), none, .take 15⟩])
            (.seq
             (.dreg [] [⟨(some 16), none, .mv (.t 0)⟩,
               ⟨(some 17), none, .mv (.t 5)⟩,
               ⟨(some 18), none, .iaddr 6 (.t 16) (.t 17)⟩,
               ⟨(some 19), none, .load (some 6) (.t 18)⟩,
               ⟨(some 20), none, .mv (.t 1)⟩,
               ⟨(some 21), none, .mv (.t 5)⟩,
               ⟨(some 22), none, .iaddr 6 (.t 20) (.t 21)⟩,
               ⟨(some 23), none, .load (some 6) (.t 22)⟩,
               ⟨(some 24), none, .eqs [1, 1, 0, 2, 0, 2] true (.t 19) (.t 23)⟩])
             (.cond (.t 24)
              (.seq
               (.reg [⟨(some 4), none, .mv (.c (.bool false))⟩])
               .ret)
              .skip))))
          (.reg [⟨(some 25), none, .bin .add (.t 13) (.c (.int .i64 1))⟩,
            ⟨(some 13), none, .take 25⟩])))))))
    (.seq
     (.reg [⟨(some 4), none, .mv (.c (.bool true))⟩])
     .ret))))
def ar76 : List AR := [.t 4]
theorem comp76 : Try.f76.body.bind (comp Try.prog 26) = some ac76 := by kernel_rfl
theorem cres76 : compRes Try.prog Try.f76.results.toList = some ar76 := by kernel_rfl
/-- bilander/batch.where -/
def ac81 : AC :=
 (.seq
  (.reg [⟨(some 2), none, .box 6 (.t 0)⟩,
    ⟨(some 3), none, .box 1 (.t 1)⟩,
    ⟨(some 4), none, .mv (.c (.int .i64 0))⟩])
  (.seq
   (.seq
    (.frz [3, 2])
    (.reg [⟨(some 5), none, .faddr (.t 2) 5⟩,
      ⟨(some 6), none, .load none (.t 5)⟩,
      ⟨(some 7), none, .mkfn 102 [] [(.t 3), (.t 2)]⟩,
      ⟨(some 8), none, .call 101 [(.t 6), (.t 7)]⟩,
      ⟨(some 4), none, .take 8⟩]))
   .ret))
def ar81 : List AR := [.t 4]
theorem comp81 : Try.f81.body.bind (comp Try.prog 9) = some ac81 := by kernel_rfl
theorem cres81 : compRes Try.prog Try.f81.results.toList = some ar81 := by kernel_rfl
/-- bilander/batch.At$1 -/
def ac82 : AC :=
 (.seq
  (.reg [⟨(some 3), none, .mv (.c (.bool false))⟩])
  (.seq
   (.reg [⟨(some 4), none, .mv (.t 0)⟩,
     ⟨(some 5), none, .load none (.t 1)⟩,
     ⟨(some 6), none, .bin .eql (.t 4) (.t 5)⟩,
     ⟨(some 3), none, .take 6⟩])
   .ret))
def ar82 : List AR := [.t 3]
theorem comp82 : Try.f82.body.bind (comp Try.prog 7) = some ac82 := by kernel_rfl
theorem cres82 : compRes Try.prog Try.f82.results.toList = some ar82 := by kernel_rfl
/-- slices.Clone[[]bilander/api.Record,bilander/api.Record] -/
def ac84 : AC :=
 (.seq
  (.reg [⟨(some 2), none, .mv (.c .nils)⟩])
  (.seq
   (.seq
    (.reg [⟨(some 3), none, .mv (.t 0)⟩,
      ⟨(some 4), none, .eqn true false (.t 3)⟩])
    (.cond (.t 4)
     (.seq
      (.reg [⟨(some 2), none, .mv (.c .nils)⟩])
      .ret)
     .skip))
   (.seq
    (.reg [⟨(some 5), none, .bsl 6 0 [(.int .i64 0), (.int .i64 0), (.bool false), (.str (ByteArray.mk #[])), (.bool false), (.str (ByteArray.mk #[]))] []⟩,
      ⟨(some 6), none, .mv (.t 0)⟩,
      ⟨(some 7), none, .app 6 64 5 (.t 6)⟩,
      ⟨(some 2), none, .take 7⟩])
    .ret)))
def ar84 : List AR := [.t 2]
theorem comp84 : Try.f84.body.bind (comp Try.prog 8) = some ac84 := by kernel_rfl
theorem cres84 : compRes Try.prog Try.f84.results.toList = some ar84 := by kernel_rfl
/-- bilander/batch.From$1 -/
def ac85 : AC :=
 (.seq
  (.reg [⟨(some 3), none, .box 6 (.t 0)⟩,
    ⟨(some 4), none, .mv (.c (.bool false))⟩])
  (.seq
   (.reg [⟨(some 5), none, .faddr (.t 1) 0⟩,
     ⟨(some 6), none, .load none (.t 5)⟩,
     ⟨(some 7), none, .faddr (.t 3) 0⟩,
     ⟨(some 8), none, .load none (.t 7)⟩,
     ⟨(some 9), none, .bin .add (.t 6) (.t 8)⟩,
     ⟨(some 10), none, .load none (.t 2)⟩,
     ⟨(some 11), none, .bin .lss (.t 9) (.t 10)⟩,
     ⟨(some 4), none, .take 11⟩])
   .ret))
def ar85 : List AR := [.t 4]
theorem comp85 : Try.f85.body.bind (comp Try.prog 12) = some ac85 := by kernel_rfl
theorem cres85 : compRes Try.prog Try.f85.results.toList = some ar85 := by kernel_rfl
/-- bilander/batch.within -/
def ac100 : AC :=
 (.seq
  (.reg [⟨(some 4), none, .mv (.c (.bool false))⟩])
  (.seq
   (.reg [⟨(some 5), none, .mv (.t 0)⟩,
     ⟨(some 6), none, .bin .geq (.t 5) (.c (.int .i64 0))⟩,
     ⟨(some 7), none, .take 6⟩,
     ⟨(some 8), (some (7, true)), .mv (.t 0)⟩,
     ⟨(some 9), (some (7, true)), .mv (.t 1)⟩,
     ⟨(some 10), (some (7, true)), .bin .leq (.t 8) (.t 9)⟩,
     ⟨(some 11), none, .pick (.t 7) (.t 10) (.c (.bool false))⟩,
     ⟨(some 4), none, .take 11⟩])
   .ret))
def ar100 : List AR := [.t 4]
theorem comp100 : Try.f100.body.bind (comp Try.prog 12) = some ac100 := by kernel_rfl
theorem cres100 : compRes Try.prog Try.f100.results.toList = some ar100 := by kernel_rfl
/-- slices.IndexFunc[[]bilander/api.Record,bilander/api.Record] -/
def ac101 : AC :=
 (.seq
  (.reg [⟨(some 4), none, .mv (.c (.int .i64 0))⟩])
  (.seq
   (.seq
    (.reg [⟨(some 6), none, .mv (.t 0)⟩,
      ⟨(some 7), none, .len false (.t 6)⟩,
      ⟨(some 8), none, .mv (.c (.int .i64 0))⟩])
    (.block 0
     (.loop
      (.seq
       (.reg [⟨(some 9), none, .bin .lss (.t 8) (.t 7)⟩])
       (.seq
        (.cond (.t 9)
         .skip
         (.exit 0))
        (.seq
         (.block 1
          (.seq
           (.reg [⟨(some 10), none, .take 8⟩,
             ⟨(some 5), none, .take 10⟩])
           (.seq
            (.reg [⟨(some 11), none, .mv (.t 1)⟩,
              ⟨(some 12), none, .mv (.t 0)⟩,
              ⟨(some 13), none, .mv (.t 5)⟩,
              ⟨(some 14), none, .iaddr 6 (.t 12) (.t 13)⟩,
              ⟨(some 15), none, .load (some 6) (.t 14)⟩,
              ⟨(some 16), none, .callV (.t 11) [(.t 15)]⟩])
            (.cond (.t 16)
             (.seq
              (.reg [⟨(some 17), none, .take 5⟩,
                ⟨(some 4), none, .take 17⟩])
              .ret)
             .skip))))
         (.reg [⟨(some 18), none, .bin .add (.t 8) (.c (.int .i64 1))⟩,
           ⟨(some 8), none, .take 18⟩])))))))
   (.seq
    (.reg [⟨(some 4), none, .mv (.c (.int .i64 (-1)))⟩])
    .ret)))
def ar101 : List AR := [.t 4]
theorem comp101 : Try.f101.body.bind (comp Try.prog 19) = some ac101 := by kernel_rfl
theorem cres101 : compRes Try.prog Try.f101.results.toList = some ar101 := by kernel_rfl
/-- bilander/batch.where$1 -/
def ac102 : AC :=
 (.seq
  (.reg [⟨(some 3), none, .box 6 (.t 0)⟩,
    ⟨(some 4), none, .mv (.c (.bool false))⟩])
  (.seq
   (.reg [⟨(some 5), none, .load none (.t 1)⟩,
     ⟨(some 6), none, .faddr (.t 2) 0⟩,
     ⟨(some 7), none, .load none (.t 6)⟩,
     ⟨(some 8), none, .faddr (.t 3) 0⟩,
     ⟨(some 9), none, .load none (.t 8)⟩,
     ⟨(some 10), none, .bin .add (.t 7) (.t 9)⟩,
     ⟨(some 11), none, .callV (.t 5) [(.t 10)]⟩,
     ⟨(some 4), none, .take 11⟩])
   .ret))
def ar102 : List AR := [.t 4]
theorem comp102 : Try.f102.body.bind (comp Try.prog 12) = some ac102 := by kernel_rfl
theorem cres102 : compRes Try.prog Try.f102.results.toList = some ar102 := by kernel_rfl
end Go.Proofs.Ytkiimlmlfhmkiaa
