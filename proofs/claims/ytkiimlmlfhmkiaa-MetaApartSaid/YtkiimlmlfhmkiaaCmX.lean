import Derived.Test.YtkiimlmlfhmkiaaAvL3
import Derived.Test.YtkiimlmlfhmkiaaProg
import Derived.KernelRfl

set_option maxRecDepth 100000
namespace Go.Proofs.Ytkiimlmlfhmkiaa
open Go.Av
/-- bilander/meta.Put -/
def ac16 : AC :=
 (.seq
  (.reg [⟨(some 1), none, .box 9 (.t 0)⟩,
    ⟨(some 2), none, .mv (.c .nils)⟩,
    ⟨(some 3), none, .mv (.c (.int .i64 0))⟩])
  (.seq
   (.seq
    (.reg [⟨(some 9), none, .load (some 9) (.t 1)⟩,
      ⟨(some 10), none, .call 18 [(.t 9)]⟩,
      ⟨(some 4), none, .take 10⟩])
    (.seq
     (.reg [⟨(some 11), none, .mv (.t 4)⟩,
       ⟨(some 12), none, .bin .neq (.t 11) (.c (.int .i64 0))⟩])
     (.cond (.t 12)
      (.seq
       (.reg [⟨(some 13), none, .take 4⟩,
         ⟨(some 2), none, .mv (.c .nils)⟩,
         ⟨(some 3), none, .take 13⟩])
       .ret)
      .skip)))
   (.seq
    (.reg [⟨(some 14), none, .faddr (.t 1) 0⟩,
      ⟨(some 15), none, .load none (.t 14)⟩,
      ⟨(some 16), none, .bsl 1 1 [(.int .u8 0)] [(0, (.t 15))]⟩,
      ⟨(some 5), none, .alloc [.nils]⟩,
      ⟨none, none, .storeO (.t 5) 16⟩])
    (.seq
     (.seq
      (.frz [5])
      (.reg [⟨(some 17), none, .mkfn 49 [] [(.t 5)]⟩,
        ⟨(some 6), none, .take 17⟩]))
     (.seq
      (.reg [⟨(some 18), none, .faddr (.t 1) 0⟩,
        ⟨(some 19), none, .load none (.t 18)⟩,
        ⟨(some 20), none, .call 51 [(.t 19)]⟩,
        ⟨(some 7), none, .alloc [(.bool false), (.bool false), (.bool false), (.bool false), (.bool false)]⟩,
        ⟨none, none, .store 5 (.t 7) (.t 20)⟩])
      (.seq
       (.reg [⟨(some 21), none, .mv (.t 6)⟩,
         ⟨(some 22), none, .faddr (.t 1) 1⟩,
         ⟨(some 23), none, .load none (.t 22)⟩,
         ⟨(some 24), none, .callV (.t 21) [(.c (.bool true)), (.t 23)]⟩])
       (.seq
        (.reg [⟨(some 25), none, .mv (.t 6)⟩,
          ⟨(some 26), none, .faddr (.t 7) 0⟩,
          ⟨(some 27), none, .load none (.t 26)⟩,
          ⟨(some 28), none, .faddr (.t 1) 4⟩,
          ⟨(some 29), none, .load none (.t 28)⟩,
          ⟨(some 30), none, .callV (.t 25) [(.t 27), (.t 29)]⟩])
        (.seq
         (.reg [⟨(some 8), none, .mv (.c (.int .i64 0))⟩])
         (.seq
          (.seq
           (.reg [⟨(some 31), none, .faddr (.t 1) 5⟩,
             ⟨(some 32), none, .load none (.t 31)⟩])
           (.cond (.t 32)
            (.reg [⟨(some 8), none, .mv (.c (.int .i64 1))⟩])
            .skip))
          (.seq
           (.reg [⟨(some 33), none, .mv (.t 6)⟩,
             ⟨(some 34), none, .faddr (.t 7) 0⟩,
             ⟨(some 35), none, .load none (.t 34)⟩,
             ⟨(some 36), none, .mv (.t 8)⟩,
             ⟨(some 37), none, .callV (.t 33) [(.t 35), (.t 36)]⟩])
           (.seq
            (.reg [⟨(some 38), none, .mv (.t 6)⟩,
              ⟨(some 39), none, .faddr (.t 7) 1⟩,
              ⟨(some 40), none, .load none (.t 39)⟩,
              ⟨(some 41), none, .faddr (.t 1) 2⟩,
              ⟨(some 42), none, .load none (.t 41)⟩,
              ⟨(some 43), none, .callV (.t 38) [(.t 40), (.t 42)]⟩])
            (.seq
             (.reg [⟨(some 44), none, .mv (.t 6)⟩,
               ⟨(some 45), none, .faddr (.t 7) 2⟩,
               ⟨(some 46), none, .load none (.t 45)⟩,
               ⟨(some 47), none, .faddr (.t 1) 8⟩,
               ⟨(some 48), none, .load none (.t 47)⟩,
               ⟨(some 49), none, .callV (.t 44) [(.t 46), (.t 48)]⟩])
             (.seq
              (.reg [⟨(some 50), none, .mv (.t 6)⟩,
                ⟨(some 51), none, .faddr (.t 7) 3⟩,
                ⟨(some 52), none, .load none (.t 51)⟩,
                ⟨(some 53), none, .faddr (.t 1) 6⟩,
                ⟨(some 54), none, .load none (.t 53)⟩,
                ⟨(some 55), none, .callV (.t 50) [(.t 52), (.t 54)]⟩])
              (.seq
               (.reg [⟨(some 56), none, .mv (.t 6)⟩,
                 ⟨(some 57), none, .faddr (.t 7) 4⟩,
                 ⟨(some 58), none, .load none (.t 57)⟩,
                 ⟨(some 59), none, .faddr (.t 1) 7⟩,
                 ⟨(some 60), none, .load none (.t 59)⟩,
                 ⟨(some 61), none, .callV (.t 56) [(.t 58), (.t 60)]⟩])
               (.seq
                (.seq
                 (.reg [⟨(some 62), none, .faddr (.t 7) 0⟩,
                   ⟨(some 63), none, .load none (.t 62)⟩])
                 (.cond (.t 63)
                  (.dreg [(5, 5), (65, 1), (1, 1)] [⟨(some 64), none, .takeLoad (.t 5)⟩,
                    ⟨(some 65), none, .faddr (.t 1) 3⟩,
                    ⟨(some 66), none, .load none (.t 65)⟩,
                    ⟨(some 67), none, .call 52 [(.t 66)]⟩,
                    ⟨(some 68), none, .app 1 1 64 (.t 67)⟩,
                    ⟨none, none, .storeO (.t 5) 68⟩])
                  .skip))
                (.seq
                 (.reg [⟨(some 69), none, .load none (.t 5)⟩,
                   ⟨(some 2), none, .take 69⟩,
                   ⟨(some 3), none, .mv (.c (.int .i64 0))⟩])
                 .ret))))))))))))))))
def ar16 : List AR := [.t 2, .t 3]
theorem comp16 : Try.f16.body.bind (comp Try.prog 70) = some ac16 := by kernel_rfl
theorem cres16 : compRes Try.prog Try.f16.results.toList = some ar16 := by kernel_rfl
/-- bilander/meta.Get -/
def ac22 : AC :=
 (.seq
  (.reg [⟨(some 2), none, .alloc [(.int .u8 0), (.int .i64 0), (.int .i64 0), (.str (ByteArray.mk #[])), (.int .i64 0), (.bool false), (.int .i64 0), (.int .i64 0), (.int .i64 0)]⟩,
    ⟨(some 3), none, .mv (.c (.int .i64 0))⟩])
  (.seq
   (.reg [⟨(some 11), none, .mv (.t 0)⟩,
     ⟨(some 12), none, .callN 59 [(.t 11)]⟩,
     ⟨(some 4), none, .alloc [.nilp]⟩,
     ⟨none, none, .store 1 (.t 4) (.t 12)⟩])
   (.seq
    (.reg [⟨(some 13), none, .load none (.t 4)⟩,
      ⟨(some 14), none, .callE 60 (.t 13) [(.c (.int .i64 1))]⟩,
      ⟨(some 15), none, .conv .u8 (.t 14)⟩,
      ⟨(some 16), none, .build [(.int .u8 0), (.int .i64 0), (.int .i64 0), (.str (ByteArray.mk #[])), (.int .i64 0), (.bool false), (.int .i64 0), (.int .i64 0), (.int .i64 0)] [(0, 1, (.t 15))]⟩,
      ⟨(some 5), none, .alloc [(.int .u8 0), (.int .i64 0), (.int .i64 0), (.str (ByteArray.mk #[])), (.int .i64 0), (.bool false), (.int .i64 0), (.int .i64 0), (.int .i64 0)]⟩,
      ⟨none, none, .store 9 (.t 5) (.t 16)⟩])
    (.seq
     (.seq
      (.frz [4])
      (.reg [⟨(some 17), none, .mkfn 61 [] [(.t 4)]⟩,
        ⟨(some 6), none, .take 17⟩]))
     (.seq
      (.reg [⟨(some 18), none, .faddr (.t 5) 0⟩,
        ⟨(some 19), none, .load none (.t 18)⟩,
        ⟨(some 20), none, .call 51 [(.t 19)]⟩,
        ⟨(some 7), none, .alloc [(.bool false), (.bool false), (.bool false), (.bool false), (.bool false)]⟩,
        ⟨none, none, .store 5 (.t 7) (.t 20)⟩])
      (.seq
       (.reg [⟨(some 8), none, .alloc [(.int .i64 0)]⟩,
         ⟨none, none, .store 1 (.t 8) (.c (.int .i64 0))⟩])
       (.seq
        (.reg [⟨(some 21), none, .mv (.t 6)⟩,
          ⟨(some 22), none, .faddr (.t 5) 1⟩,
          ⟨(some 23), none, .callV (.t 21) [(.c (.bool true)), (.t 22)]⟩])
        (.seq
         (.reg [⟨(some 24), none, .mv (.t 6)⟩,
           ⟨(some 25), none, .faddr (.t 7) 0⟩,
           ⟨(some 26), none, .load none (.t 25)⟩,
           ⟨(some 27), none, .faddr (.t 5) 4⟩,
           ⟨(some 28), none, .callV (.t 24) [(.t 26), (.t 27)]⟩])
         (.seq
          (.reg [⟨(some 29), none, .mv (.t 6)⟩,
            ⟨(some 30), none, .faddr (.t 7) 0⟩,
            ⟨(some 31), none, .load none (.t 30)⟩,
            ⟨(some 32), none, .callV (.t 29) [(.t 31), (.t 8)]⟩])
          (.seq
           (.reg [⟨(some 33), none, .mv (.t 6)⟩,
             ⟨(some 34), none, .faddr (.t 7) 1⟩,
             ⟨(some 35), none, .load none (.t 34)⟩,
             ⟨(some 36), none, .faddr (.t 5) 2⟩,
             ⟨(some 37), none, .callV (.t 33) [(.t 35), (.t 36)]⟩])
           (.seq
            (.reg [⟨(some 38), none, .mv (.t 6)⟩,
              ⟨(some 39), none, .faddr (.t 7) 2⟩,
              ⟨(some 40), none, .load none (.t 39)⟩,
              ⟨(some 41), none, .faddr (.t 5) 8⟩,
              ⟨(some 42), none, .callV (.t 38) [(.t 40), (.t 41)]⟩])
            (.seq
             (.reg [⟨(some 43), none, .mv (.t 6)⟩,
               ⟨(some 44), none, .faddr (.t 7) 3⟩,
               ⟨(some 45), none, .load none (.t 44)⟩,
               ⟨(some 46), none, .faddr (.t 5) 6⟩,
               ⟨(some 47), none, .callV (.t 43) [(.t 45), (.t 46)]⟩])
             (.seq
              (.reg [⟨(some 48), none, .mv (.t 6)⟩,
                ⟨(some 49), none, .faddr (.t 7) 4⟩,
                ⟨(some 50), none, .load none (.t 49)⟩,
                ⟨(some 51), none, .faddr (.t 5) 7⟩,
                ⟨(some 52), none, .callV (.t 48) [(.t 50), (.t 51)]⟩])
              (.seq
               (.seq
                (.reg [⟨(some 53), none, .faddr (.t 7) 0⟩,
                  ⟨(some 54), none, .load none (.t 53)⟩])
                (.cond (.t 54)
                 (.reg [⟨(some 55), none, .load none (.t 4)⟩,
                   ⟨(some 56), none, .callE 63 (.t 55) [(.c (.int .i64 32))]⟩,
                   ⟨(some 57), none, .faddr (.t 5) 3⟩,
                   ⟨none, none, .store 1 (.t 57) (.t 56)⟩])
                 .skip))
               (.seq
                (.reg [⟨(some 58), none, .load none (.t 8)⟩,
                  ⟨(some 59), none, .bin .eql (.t 58) (.c (.int .i64 1))⟩,
                  ⟨(some 60), none, .faddr (.t 5) 5⟩,
                  ⟨none, none, .store 1 (.t 60) (.t 59)⟩])
                (.seq
                 (.seq
                  (.reg [⟨(some 62), none, .load (some 9) (.t 5)⟩,
                    ⟨(some 63), none, .call 16 [(.t 62)]⟩,
                    ⟨(some 61), none, .take 63⟩,
                    ⟨(some 64), none, .ext 61 0⟩,
                    ⟨(some 65), none, .ext 61 1⟩,
                    ⟨(some 9), none, .take 64⟩,
                    ⟨(some 10), none, .take 65⟩])
                  (.seq
                   (.reg [⟨(some 66), none, .mv (.t 10)⟩,
                     ⟨(some 67), none, .bin .neq (.t 66) (.c (.int .i64 0))⟩,
                     ⟨(some 68), none, .take 67⟩,
                     ⟨(some 69), (some (68, false)), .load none (.t 4)⟩,
                     ⟨(some 70), (some (68, false)), .callE 64 (.t 69) []⟩,
                     ⟨(some 71), (some (68, false)), .bin .neq (.t 70) (.c (.int .i64 0))⟩,
                     ⟨(some 72), none, .pick (.t 68) (.c (.bool true)) (.t 71)⟩,
                     ⟨(some 73), none, .take 72⟩,
                     ⟨(some 74), (some (73, false)), .mv (.t 0)⟩,
                     ⟨(some 75), (some (73, false)), .mv (.t 9)⟩,
                     ⟨(some 76), (some (73, false)), .call 65 [(.t 74), (.t 75)]⟩,
                     ⟨(some 77), (some (73, false)), .una .not (.t 76)⟩,
                     ⟨(some 78), none, .pick (.t 73) (.c (.bool true)) (.t 77)⟩])
                   (.cond (.t 78)
                    (.seq
                     (.reg [⟨(some 79), none, .build [(.int .u8 0), (.int .i64 0), (.int .i64 0), (.str (ByteArray.mk #[])), (.int .i64 0), (.bool false), (.int .i64 0), (.int .i64 0), (.int .i64 0)] []⟩,
                       ⟨none, none, .store 9 (.t 2) (.t 79)⟩,
                       ⟨(some 3), none, .mv (.c (.int .i64 4))⟩])
                     .ret)
                    .skip)))
                 (.seq
                  (.reg [⟨(some 80), none, .load (some 9) (.t 5)⟩,
                    ⟨none, none, .store 9 (.t 2) (.t 80)⟩,
                    ⟨(some 3), none, .mv (.c (.int .i64 0))⟩])
                  .ret)))))))))))))))))
def ar22 : List AR := [.c 2 (some 9), .t 3]
theorem comp22 : Try.f22.body.bind (comp Try.prog 81) = some ac22 := by kernel_rfl
theorem cres22 : compRes Try.prog Try.f22.results.toList = some ar22 := by kernel_rfl
/-- bilander/meta.Put$1 -/
def ac49 : AC :=
 (.seq
  (.reg [⟨(some 5), none, .mv (.t 0)⟩])
  (.cond (.t 5)
   (.dreg [] [⟨(some 6), none, .takeLoad (.t 2)⟩,
     ⟨(some 7), none, .mv (.t 1)⟩,
     ⟨(some 8), none, .call 50 [(.t 7)]⟩,
     ⟨(some 9), none, .app 1 1 6 (.t 8)⟩,
     ⟨none, none, .storeO (.t 2) 9⟩])
   .skip))
def ar49 : List AR := []
theorem comp49 : Try.f49.body.bind (comp Try.prog 10) = some ac49 := by kernel_rfl
theorem cres49 : compRes Try.prog Try.f49.results.toList = some ar49 := by kernel_rfl
/-- bilander/meta.Get$1 -/
def ac61 : AC :=
 (.seq
  (.reg [⟨(some 5), none, .mv (.t 0)⟩])
  (.cond (.t 5)
   (.reg [⟨(some 6), none, .mv (.t 1)⟩,
     ⟨(some 7), none, .load none (.t 2)⟩,
     ⟨(some 8), none, .callE 62 (.t 7) []⟩,
     ⟨(some 9), none, .nilc (.t 6)⟩,
     ⟨none, none, .store 1 (.t 9) (.t 8)⟩])
   .skip))
def ar61 : List AR := []
theorem comp61 : Try.f61.body.bind (comp Try.prog 10) = some ac61 := by kernel_rfl
theorem cres61 : compRes Try.prog Try.f61.results.toList = some ar61 := by kernel_rfl
end Go.Proofs.Ytkiimlmlfhmkiaa
