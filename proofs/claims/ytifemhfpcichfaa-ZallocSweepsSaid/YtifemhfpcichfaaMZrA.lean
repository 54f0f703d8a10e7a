import Derived.Test.YtifemhfpcichfaaAvL3
import Derived.Test.YtifemhfpcichfaaProg
import Derived.KernelRfl
import Derived.Test.YtifemhfpcichfaaAvAA
import Derived.Test.YtifemhfpcichfaaAvAD
import Derived.Test.YtifemhfpcichfaaAvRg
import Derived.Maps.OwnSet
import Derived.Maps.Views
import Derived.DeepKeys4
import Derived.WalkKit
import Derived.Deep.LoopGhost
import Derived.Deep.Draws
import Derived.Deep.RegionWith
import Derived.Shelf.RegionOpenPlain
import Derived.Deep.RegionHeld

set_option linter.unusedVariables false
set_option linter.unusedSimpArgs false

set_option maxRecDepth 100000
namespace Go.Proofs.Ytifemhfpcichfaa

open Go.Av
/-- bilander/bilanderref06.New -/
def ac30 : AC :=
 (.seq
  (.reg [⟨(some 4), none, .alloc [.nils, (.int .i64 0), (.bool false), (.int .i64 0), (.int .i64 0), (.bool false)]⟩,
    ⟨(some 5), none, .mv (.c (.int .i64 0))⟩])
  (.seq
   (.seq
    (.reg [⟨(some 6), none, .mv (.t 0)⟩,
      ⟨(some 7), none, .bin .lss (.t 6) (.c (.int .i64 4))⟩,
      ⟨(some 8), none, .take 7⟩,
      ⟨(some 9), (some (8, false)), .mv (.t 0)⟩,
      ⟨(some 10), (some (8, false)), .bin .gtr (.t 9) (.c (.int .i64 64))⟩,
      ⟨(some 11), none, .pick (.t 8) (.c (.bool true)) (.t 10)⟩,
      ⟨(some 12), none, .take 11⟩,
      ⟨(some 13), (some (12, false)), .mv (.t 1)⟩,
      ⟨(some 14), (some (12, false)), .bin .lss (.t 13) (.c (.int .i64 4))⟩,
      ⟨(some 15), none, .pick (.t 12) (.c (.bool true)) (.t 14)⟩,
      ⟨(some 16), none, .take 15⟩,
      ⟨(some 17), (some (16, false)), .mv (.t 1)⟩,
      ⟨(some 18), (some (16, false)), .bin .gtr (.t 17) (.c (.int .i64 256))⟩,
      ⟨(some 19), none, .pick (.t 16) (.c (.bool true)) (.t 18)⟩])
    (.cond (.t 19)
     (.seq
      (.reg [⟨(some 20), none, .build [.nils, (.int .i64 0), (.bool false), (.int .i64 0), (.int .i64 0), (.bool false)] []⟩,
        ⟨none, none, .store 6 (.t 4) (.t 20)⟩,
        ⟨(some 5), none, .mv (.c (.int .i64 2))⟩])
      .ret)
     .skip))
   (.seq
    (.reg [⟨(some 21), none, .mv (.t 0)⟩,
      ⟨(some 22), none, .mks 3 40 [.nils, (.int .i64 0), (.bool false)] (.t 21)⟩,
      ⟨(some 23), none, .mv (.t 1)⟩,
      ⟨(some 24), none, .build [.nils, (.int .i64 0), (.bool false), (.int .i64 0), (.int .i64 0), (.bool false)] [(0, 1, (.t 22)), (1, 1, (.t 23)), (4, 1, (.c (.int .i64 (-1))))]⟩,
      ⟨none, none, .store 6 (.t 4) (.t 24)⟩,
      ⟨(some 5), none, .mv (.c (.int .i64 0))⟩])
    .ret)))
def ar30 : List AR := [.c 4 (some 6), .t 5]
theorem comp30 : Try.f30.body.bind (comp Try.prog 25) = some ac30 := by kernel_rfl
theorem cres30 : compRes Try.prog Try.f30.results.toList = some ar30 := by kernel_rfl
/-- (bilander/bilanderref06.Dev).Flush -/
def ac36 : AC :=
 (.seq
  (.reg [⟨(some 1), none, .box 6 (.t 0)⟩,
    ⟨(some 2), none, .alloc [.nils, (.int .i64 0), (.bool false), (.int .i64 0), (.int .i64 0), (.bool false)]⟩,
    ⟨(some 3), none, .mv (.c (.int .i64 0))⟩])
  (.seq
   (.seq
    (.reg [⟨(some 4), none, .faddr (.t 1) 2⟩,
      ⟨(some 5), none, .load none (.t 4)⟩])
    (.cond (.t 5)
     (.seq
      (.reg [⟨(some 6), none, .load (some 6) (.t 1)⟩,
        ⟨none, none, .store 6 (.t 2) (.t 6)⟩,
        ⟨(some 3), none, .mv (.c (.int .i64 10))⟩])
      .ret)
     .skip))
   (.seq
    (.dreg [] [⟨(some 7), none, .load (some 6) (.t 1)⟩,
      ⟨(some 8), none, .load (some 6) (.t 1)⟩,
      ⟨(some 9), none, .call 60 [(.t 8)]⟩,
      ⟨(some 10), none, .call 59 [(.t 7), (.t 9)]⟩,
      ⟨(some 11), none, .extS 10 0⟩,
      ⟨(some 12), none, .extS 10 1⟩,
      ⟨none, none, .store 6 (.t 2) (.t 11)⟩,
      ⟨(some 3), none, .take 12⟩])
    .ret)))
def ar36 : List AR := [.c 2 (some 6), .t 3]
theorem comp36 : Try.f36.body.bind (comp Try.prog 13) = some ac36 := by kernel_rfl
theorem cres36 : compRes Try.prog Try.f36.results.toList = some ar36 := by kernel_rfl
/-- (bilander/bilanderref06.Dev).Reset -/
def ac37 : AC :=
 (.seq
  (.reg [⟨(some 2), none, .box 6 (.t 0)⟩,
    ⟨(some 4), none, .alloc [.nils, (.int .i64 0), (.bool false), (.int .i64 0), (.int .i64 0), (.bool false)]⟩,
    ⟨(some 5), none, .mv (.c (.int .i64 0))⟩])
  (.seq
   (.reg [⟨(some 7), none, .load (some 6) (.t 2)⟩,
     ⟨(some 8), none, .mv (.t 1)⟩,
     ⟨(some 9), none, .call 61 [(.t 7), (.t 8)]⟩,
     ⟨(some 6), none, .take 9⟩])
   (.seq
    (.seq
     (.reg [⟨(some 10), none, .mv (.t 6)⟩,
       ⟨(some 11), none, .bin .neq (.t 10) (.c (.int .i64 0))⟩])
     (.cond (.t 11)
      (.seq
       (.reg [⟨(some 12), none, .load (some 6) (.t 2)⟩,
         ⟨(some 13), none, .take 6⟩,
         ⟨none, none, .store 6 (.t 4) (.t 12)⟩,
         ⟨(some 5), none, .take 13⟩])
       .ret)
      .skip))
    (.seq
     (.dreg [] [⟨(some 14), none, .load (some 6) (.t 2)⟩,
       ⟨(some 15), none, .load (some 6) (.t 2)⟩,
       ⟨(some 16), none, .mv (.t 1)⟩,
       ⟨(some 17), none, .build [.nils, (.int .i64 0), (.bool false)] []⟩,
       ⟨(some 18), none, .call 62 [(.t 15), (.t 16), (.t 17)]⟩,
       ⟨(some 19), none, .call 59 [(.t 14), (.t 18)]⟩,
       ⟨(some 20), none, .extS 19 0⟩,
       ⟨(some 21), none, .extS 19 1⟩,
       ⟨none, none, .store 6 (.t 4) (.t 20)⟩,
       ⟨(some 5), none, .take 21⟩])
     .ret))))
def ar37 : List AR := [.c 4 (some 6), .t 5]
theorem comp37 : Try.f37.body.bind (comp Try.prog 22) = some ac37 := by kernel_rfl
theorem cres37 : compRes Try.prog Try.f37.results.toList = some ar37 := by kernel_rfl
/-- (bilander/bilanderref06.Dev).Finish -/
def ac38 : AC :=
 (.seq
  (.reg [⟨(some 2), none, .box 6 (.t 0)⟩,
    ⟨(some 4), none, .alloc [.nils, (.int .i64 0), (.bool false), (.int .i64 0), (.int .i64 0), (.bool false)]⟩,
    ⟨(some 5), none, .mv (.c (.int .i64 0))⟩])
  (.seq
   (.reg [⟨(some 8), none, .load (some 6) (.t 2)⟩,
     ⟨(some 9), none, .mv (.t 1)⟩,
     ⟨(some 10), none, .call 61 [(.t 8), (.t 9)]⟩,
     ⟨(some 6), none, .take 10⟩])
   (.seq
    (.seq
     (.reg [⟨(some 11), none, .mv (.t 6)⟩,
       ⟨(some 12), none, .bin .neq (.t 11) (.c (.int .i64 0))⟩])
     (.cond (.t 12)
      (.seq
       (.reg [⟨(some 13), none, .load (some 6) (.t 2)⟩,
         ⟨(some 14), none, .take 6⟩,
         ⟨none, none, .store 6 (.t 4) (.t 13)⟩,
         ⟨(some 5), none, .take 14⟩])
       .ret)
      .skip))
    (.seq
     (.reg [⟨(some 15), none, .faddr (.t 2) 0⟩,
       ⟨(some 16), none, .load none (.t 15)⟩,
       ⟨(some 17), none, .mv (.t 1)⟩,
       ⟨(some 18), none, .iaddr 3 (.t 16) (.t 17)⟩,
       ⟨(some 19), none, .load (some 3) (.t 18)⟩,
       ⟨(some 7), none, .alloc [.nils, (.int .i64 0), (.bool false)]⟩,
       ⟨none, none, .store 3 (.t 7) (.t 19)⟩])
     (.seq
      (.reg [⟨(some 20), none, .faddr (.t 7) 2⟩,
        ⟨none, none, .store 1 (.t 20) (.c (.bool true))⟩])
      (.seq
       (.dreg [] [⟨(some 21), none, .load (some 6) (.t 2)⟩,
         ⟨(some 22), none, .load (some 6) (.t 2)⟩,
         ⟨(some 23), none, .mv (.t 1)⟩,
         ⟨(some 24), none, .load (some 3) (.t 7)⟩,
         ⟨(some 25), none, .call 62 [(.t 22), (.t 23), (.t 24)]⟩,
         ⟨(some 26), none, .call 59 [(.t 21), (.t 25)]⟩,
         ⟨(some 27), none, .extS 26 0⟩,
         ⟨(some 28), none, .extS 26 1⟩,
         ⟨none, none, .store 6 (.t 4) (.t 27)⟩,
         ⟨(some 5), none, .take 28⟩])
       .ret))))))
def ar38 : List AR := [.c 4 (some 6), .t 5]
theorem comp38 : Try.f38.body.bind (comp Try.prog 29) = some ac38 := by kernel_rfl
theorem cres38 : compRes Try.prog Try.f38.results.toList = some ar38 := by kernel_rfl
/-- (bilander/bilanderref06.Dev).Fail -/
def ac40 : AC :=
 (.seq
  (.reg [⟨(some 3), none, .box 6 (.t 0)⟩,
    ⟨(some 6), none, .alloc [.nils, (.int .i64 0), (.bool false), (.int .i64 0), (.int .i64 0), (.bool false)]⟩,
    ⟨(some 7), none, .mv (.c (.int .i64 0))⟩])
  (.seq
   (.block 0
    (.seq
     (.reg [⟨(some 9), none, .faddr (.t 3) 2⟩,
       ⟨(some 10), none, .load none (.t 9)⟩,
       ⟨(some 8), none, .take 10⟩])
     (.cond (.t 8)
      (.seq
       (.reg [⟨(some 11), none, .load (some 6) (.t 3)⟩,
         ⟨none, none, .store 6 (.t 6) (.t 11)⟩,
         ⟨(some 7), none, .mv (.c (.int .i64 10))⟩])
       .ret)
      (.seq
       (.reg [⟨(some 13), none, .mv (.t 1)⟩,
         ⟨(some 14), none, .bin .lss (.t 13) (.c (.int .i64 0))⟩,
         ⟨(some 12), none, .take 14⟩])
       (.cond (.t 12)
        (.seq
         (.reg [⟨(some 15), none, .load (some 6) (.t 3)⟩,
           ⟨none, none, .store 6 (.t 6) (.t 15)⟩,
           ⟨(some 7), none, .mv (.c (.int .i64 2))⟩])
         .ret)
        .skip)))))
   (.seq
    (.reg [⟨(some 16), none, .mv (.t 1)⟩,
      ⟨(some 17), none, .mv (.t 2)⟩,
      ⟨(some 18), none, .faddr (.t 3) 4⟩,
      ⟨none, none, .store 1 (.t 18) (.t 16)⟩,
      ⟨(some 19), none, .faddr (.t 3) 5⟩,
      ⟨none, none, .store 1 (.t 19) (.t 17)⟩])
    (.seq
     (.reg [⟨(some 20), none, .load (some 6) (.t 3)⟩,
       ⟨none, none, .store 6 (.t 6) (.t 20)⟩,
       ⟨(some 7), none, .mv (.c (.int .i64 0))⟩])
     .ret))))
def ar40 : List AR := [.c 6 (some 6), .t 7]
theorem comp40 : Try.f40.body.bind (comp Try.prog 21) = some ac40 := by kernel_rfl
theorem cres40 : compRes Try.prog Try.f40.results.toList = some ar40 := by kernel_rfl
/-- (bilander/bilanderref06.Dev).Crash -/
def ac41 : AC :=
 (.seq
  (.reg [⟨(some 2), none, .box 6 (.t 0)⟩,
    ⟨(some 4), none, .alloc [.nils, (.int .i64 0), (.bool false), (.int .i64 0), (.int .i64 0), (.bool false)]⟩])
  (.seq
   (.seq
    (.reg [⟨(some 5), none, .mv (.c (.int .i64 0))⟩])
    (.block 0
     (.loop
      (.seq
       (.seq
        (.reg [⟨(some 11), none, .mv (.t 5)⟩,
          ⟨(some 12), none, .faddr (.t 2) 0⟩,
          ⟨(some 13), none, .load none (.t 12)⟩,
          ⟨(some 14), none, .len false (.t 13)⟩,
          ⟨(some 15), none, .bin .lss (.t 11) (.t 14)⟩])
        (.cond (.t 15)
         .skip
         (.exit 0)))
       (.seq
        (.block 1
         (.seq
          (.reg [⟨(some 18), none, .faddr (.t 2) 0⟩,
            ⟨(some 19), none, .load none (.t 18)⟩,
            ⟨(some 20), none, .mv (.t 5)⟩,
            ⟨(some 21), none, .iaddr 3 (.t 19) (.t 20)⟩,
            ⟨(some 22), none, .load (some 3) (.t 21)⟩,
            ⟨(some 6), none, .alloc [.nils, (.int .i64 0), (.bool false)]⟩,
            ⟨none, none, .store 3 (.t 6) (.t 22)⟩])
          (.seq
           (.seq
            (.reg [⟨(some 23), none, .faddr (.t 6) 1⟩,
              ⟨(some 24), none, .load none (.t 23)⟩,
              ⟨(some 25), none, .bin .eql (.t 24) (.c (.int .i64 0))⟩])
            (.cond (.t 25)
             (.exit 1)
             .skip))
           (.seq
            (.reg [⟨(some 7), none, .mv (.c (.int .i64 0))⟩,
              ⟨(some 8), none, .mv (.c (.int .i64 0))⟩])
            (.seq
             (.reg [⟨(some 27), none, .take 1⟩,
               ⟨(some 28), none, .call 63 [(.t 27)]⟩,
               ⟨(some 26), none, .take 28⟩,
               ⟨(some 29), none, .ext 26 0⟩,
               ⟨(some 30), none, .ext 26 1⟩,
               ⟨(some 7), none, .take 29⟩,
               ⟨(some 1), none, .take 30⟩])
             (.seq
              (.reg [⟨(some 31), none, .take 7⟩,
                ⟨(some 32), none, .faddr (.t 6) 1⟩,
                ⟨(some 33), none, .load none (.t 32)⟩,
                ⟨(some 34), none, .bin .add (.t 33) (.c (.int .i64 1))⟩,
                ⟨(some 35), none, .bin .rem (.t 31) (.t 34)⟩,
                ⟨(some 7), none, .take 35⟩])
              (.seq
               (.reg [⟨(some 36), none, .faddr (.t 6) 0⟩,
                 ⟨(some 37), none, .load none (.t 36)⟩,
                 ⟨(some 38), none, .len false (.t 37)⟩,
                 ⟨(some 39), none, .faddr (.t 6) 1⟩,
                 ⟨(some 40), none, .load none (.t 39)⟩,
                 ⟨(some 41), none, .bin .sub (.t 38) (.t 40)⟩,
                 ⟨(some 42), none, .mv (.t 7)⟩,
                 ⟨(some 43), none, .bin .add (.t 41) (.t 42)⟩,
                 ⟨(some 9), none, .take 43⟩])
               (.seq
                (.reg [⟨(some 10), none, .mv (.c .nils)⟩])
                (.seq
                 (.reg [⟨(some 44), none, .take 10⟩,
                   ⟨(some 45), none, .faddr (.t 6) 0⟩,
                   ⟨(some 46), none, .load none (.t 45)⟩,
                   ⟨(some 47), none, .mv (.t 9)⟩,
                   ⟨(some 48), none, .slc false 1 (.t 46) none (some (.t 47))⟩,
                   ⟨(some 49), none, .app 1 16 44 (.t 48)⟩,
                   ⟨(some 10), none, .take 49⟩])
                 (.seq
                  (.seq
                   (.reg [⟨(some 50), none, .mv (.t 7)⟩,
                     ⟨(some 51), none, .faddr (.t 6) 1⟩,
                     ⟨(some 52), none, .load none (.t 51)⟩,
                     ⟨(some 53), none, .bin .lss (.t 50) (.t 52)⟩])
                   (.cond (.t 53)
                    (.seq
                     (.reg [⟨(some 55), none, .take 1⟩,
                       ⟨(some 56), none, .call 63 [(.t 55)]⟩,
                       ⟨(some 54), none, .take 56⟩,
                       ⟨(some 57), none, .ext 54 0⟩,
                       ⟨(some 58), none, .ext 54 1⟩,
                       ⟨(some 8), none, .take 57⟩,
                       ⟨(some 1), none, .take 58⟩])
                     (.seq
                      (.reg [⟨(some 59), none, .take 8⟩,
                        ⟨(some 60), none, .bin .rem (.t 59) (.c (.int .i64 64))⟩,
                        ⟨(some 8), none, .take 60⟩])
                      (.seq
                       (.reg [⟨(some 61), none, .mv (.t 8)⟩,
                         ⟨(some 62), none, .bin .gtr (.t 61) (.c (.int .i64 0))⟩])
                       (.cond (.t 62)
                        (.dreg [] [⟨(some 63), none, .take 10⟩,
                          ⟨(some 64), none, .faddr (.t 6) 0⟩,
                          ⟨(some 65), none, .load none (.t 64)⟩,
                          ⟨(some 66), none, .mv (.t 9)⟩,
                          ⟨(some 67), none, .iaddr 1 (.t 65) (.t 66)⟩,
                          ⟨(some 68), none, .load none (.t 67)⟩,
                          ⟨(some 69), none, .mv (.t 8)⟩,
                          ⟨(some 70), none, .slc true 0 (.t 68) none (some (.t 69))⟩,
                          ⟨(some 71), none, .mv (.t 8)⟩,
                          ⟨(some 72), none, .bin .sub (.c (.int .i64 64)) (.t 71)⟩,
                          ⟨(some 73), none, .mks 1 1 [(.int .u8 0)] (.t 72)⟩,
                          ⟨(some 74), none, .b2s (.t 73)⟩,
                          ⟨(some 75), none, .bin .add (.t 70) (.t 74)⟩,
                          ⟨(some 76), none, .bsl 1 1 [(.str (ByteArray.mk #[]))] [(0, (.t 75))]⟩,
                          ⟨(some 77), none, .app 1 16 63 (.t 76)⟩,
                          ⟨(some 10), none, .take 77⟩])
                        .skip))))
                    .skip))
                  (.seq
                   (.reg [⟨(some 78), none, .mv (.t 10)⟩,
                     ⟨(some 79), none, .faddr (.t 6) 0⟩,
                     ⟨none, none, .store 1 (.t 79) (.t 78)⟩])
                   (.reg [⟨(some 80), none, .load (some 6) (.t 2)⟩,
                     ⟨(some 81), none, .mv (.t 5)⟩,
                     ⟨(some 82), none, .load (some 3) (.t 6)⟩,
                     ⟨(some 83), none, .call 62 [(.t 80), (.t 81), (.t 82)]⟩,
                     ⟨none, none, .store 6 (.t 2) (.t 83)⟩]))))))))))))
        (.reg [⟨(some 16), none, .take 5⟩,
          ⟨(some 17), none, .bin .add (.t 16) (.c (.int .i64 1))⟩,
          ⟨(some 5), none, .take 17⟩]))))))
   (.seq
    (.reg [⟨(some 84), none, .faddr (.t 2) 2⟩,
      ⟨none, none, .store 1 (.t 84) (.c (.bool false))⟩,
      ⟨(some 85), none, .faddr (.t 2) 4⟩,
      ⟨none, none, .store 1 (.t 85) (.c (.int .i64 (-1)))⟩,
      ⟨(some 86), none, .faddr (.t 2) 5⟩,
      ⟨none, none, .store 1 (.t 86) (.c (.bool false))⟩])
    (.seq
     (.reg [⟨(some 87), none, .load (some 6) (.t 2)⟩,
       ⟨(some 88), none, .call 60 [(.t 87)]⟩,
       ⟨none, none, .store 6 (.t 4) (.t 88)⟩])
     .ret))))
def ar41 : List AR := [.c 4 (some 6)]
theorem comp41 : Try.f41.body.bind (comp Try.prog 89) = some ac41 := by kernel_rfl
theorem cres41 : compRes Try.prog Try.f41.results.toList = some ar41 := by kernel_rfl
/-- (bilander/bilanderref06.Dev).Append -/
def ac42 : AC :=
 (.seq
  (.reg [⟨(some 3), none, .box 6 (.t 0)⟩,
    ⟨(some 6), none, .alloc [.nils, (.int .i64 0), (.bool false), (.int .i64 0), (.int .i64 0), (.bool false)]⟩,
    ⟨(some 7), none, .mv (.c (.int .i64 0))⟩,
    ⟨(some 8), none, .mv (.c (.int .i64 0))⟩])
  (.seq
   (.reg [⟨(some 14), none, .load (some 6) (.t 3)⟩,
     ⟨(some 15), none, .mv (.t 1)⟩,
     ⟨(some 16), none, .call 61 [(.t 14), (.t 15)]⟩,
     ⟨(some 9), none, .take 16⟩])
   (.seq
    (.block 0
     (.seq
      (.reg [⟨(some 18), none, .mv (.t 9)⟩,
        ⟨(some 19), none, .bin .neq (.t 18) (.c (.int .i64 0))⟩,
        ⟨(some 17), none, .take 19⟩])
      (.cond (.t 17)
       (.seq
        (.reg [⟨(some 20), none, .load (some 6) (.t 3)⟩,
          ⟨(some 21), none, .take 9⟩,
          ⟨none, none, .store 6 (.t 6) (.t 20)⟩,
          ⟨(some 7), none, .mv (.c (.int .i64 0))⟩,
          ⟨(some 8), none, .take 21⟩])
        .ret)
       (.seq
        (.reg [⟨(some 23), none, .mv (.t 2)⟩,
          ⟨(some 24), none, .len false (.t 23)⟩,
          ⟨(some 25), none, .bin .neq (.t 24) (.c (.int .i64 64))⟩,
          ⟨(some 22), none, .take 25⟩])
        (.cond (.t 22)
         (.seq
          (.reg [⟨(some 26), none, .load (some 6) (.t 3)⟩,
            ⟨none, none, .store 6 (.t 6) (.t 26)⟩,
            ⟨(some 7), none, .mv (.c (.int .i64 0))⟩,
            ⟨(some 8), none, .mv (.c (.int .i64 2))⟩])
          .ret)
         (.seq
          (.reg [⟨(some 28), none, .load (some 6) (.t 3)⟩,
            ⟨(some 29), none, .mv (.t 1)⟩,
            ⟨(some 30), none, .call 64 [(.t 28), (.t 29)]⟩,
            ⟨(some 31), none, .bin .eql (.t 30) (.c (.int .i64 2))⟩,
            ⟨(some 27), none, .take 31⟩])
          (.cond (.t 27)
           (.seq
            (.reg [⟨(some 32), none, .load (some 6) (.t 3)⟩,
              ⟨none, none, .store 6 (.t 6) (.t 32)⟩,
              ⟨(some 7), none, .mv (.c (.int .i64 0))⟩,
              ⟨(some 8), none, .mv (.c (.int .i64 15))⟩])
            .ret)
           (.seq
            (.reg [⟨(some 34), none, .load (some 6) (.t 3)⟩,
              ⟨(some 35), none, .mv (.t 1)⟩,
              ⟨(some 36), none, .call 64 [(.t 34), (.t 35)]⟩,
              ⟨(some 37), none, .bin .eql (.t 36) (.c (.int .i64 0))⟩,
              ⟨(some 38), none, .take 37⟩,
              ⟨(some 39), (some (38, true)), .load (some 6) (.t 3)⟩,
              ⟨(some 40), (some (38, true)), .call 65 [(.t 39)]⟩,
              ⟨(some 41), (some (38, true)), .bin .geq (.t 40) (.c (.int .i64 14))⟩,
              ⟨(some 42), none, .pick (.t 38) (.t 41) (.c (.bool false))⟩,
              ⟨(some 33), none, .take 42⟩])
            (.cond (.t 33)
             (.seq
              (.reg [⟨(some 43), none, .load (some 6) (.t 3)⟩,
                ⟨none, none, .store 6 (.t 6) (.t 43)⟩,
                ⟨(some 7), none, .mv (.c (.int .i64 0))⟩,
                ⟨(some 8), none, .mv (.c (.int .i64 14))⟩])
              .ret)
             .skip)))))))))
    (.seq
     (.reg [⟨(some 44), none, .faddr (.t 3) 0⟩,
       ⟨(some 45), none, .load none (.t 44)⟩,
       ⟨(some 46), none, .mv (.t 1)⟩,
       ⟨(some 47), none, .iaddr 3 (.t 45) (.t 46)⟩,
       ⟨(some 48), none, .load (some 3) (.t 47)⟩,
       ⟨(some 10), none, .alloc [.nils, (.int .i64 0), (.bool false)]⟩,
       ⟨none, none, .store 3 (.t 10) (.t 48)⟩])
     (.seq
      (.reg [⟨(some 11), none, .mv (.c .nils)⟩])
      (.seq
       (.dreg [] [⟨(some 49), none, .mv (.t 11)⟩,
         ⟨(some 50), none, .faddr (.t 10) 0⟩,
         ⟨(some 51), none, .load none (.t 50)⟩,
         ⟨(some 52), none, .app 1 16 49 (.t 51)⟩,
         ⟨(some 53), none, .mv (.t 2)⟩,
         ⟨(some 54), none, .b2s (.t 53)⟩,
         ⟨(some 55), none, .bsl 1 1 [(.str (ByteArray.mk #[]))] [(0, (.t 54))]⟩,
         ⟨(some 56), none, .app 1 16 52 (.t 55)⟩,
         ⟨(some 57), none, .faddr (.t 10) 0⟩,
         ⟨none, none, .storeO (.t 57) 56⟩])
       (.seq
        (.reg [⟨(some 58), none, .faddr (.t 10) 1⟩,
          ⟨(some 59), none, .load none (.t 58)⟩,
          ⟨(some 60), none, .bin .add (.t 59) (.c (.int .i64 1))⟩,
          ⟨(some 61), none, .faddr (.t 10) 1⟩,
          ⟨none, none, .store 1 (.t 61) (.t 60)⟩])
        (.seq
         (.dreg [] [⟨(some 63), none, .load (some 6) (.t 3)⟩,
           ⟨(some 64), none, .load (some 6) (.t 3)⟩,
           ⟨(some 65), none, .mv (.t 1)⟩,
           ⟨(some 66), none, .load (some 3) (.t 10)⟩,
           ⟨(some 67), none, .call 62 [(.t 64), (.t 65), (.t 66)]⟩,
           ⟨(some 68), none, .call 59 [(.t 63), (.t 67)]⟩,
           ⟨(some 62), none, .mv (.t 68)⟩,
           ⟨(some 69), none, .extS 62 0⟩,
           ⟨(some 70), none, .extS 62 1⟩,
           ⟨(some 12), none, .alloc [.nils, (.int .i64 0), (.bool false), (.int .i64 0), (.int .i64 0), (.bool false)]⟩,
           ⟨none, none, .store 6 (.t 12) (.t 69)⟩,
           ⟨(some 13), none, .take 70⟩])
         (.seq
          (.seq
           (.reg [⟨(some 71), none, .mv (.t 13)⟩,
             ⟨(some 72), none, .bin .neq (.t 71) (.c (.int .i64 0))⟩])
           (.cond (.t 72)
            (.seq
             (.reg [⟨(some 73), none, .load (some 6) (.t 12)⟩,
               ⟨(some 74), none, .take 13⟩,
               ⟨none, none, .store 6 (.t 6) (.t 73)⟩,
               ⟨(some 7), none, .mv (.c (.int .i64 0))⟩,
               ⟨(some 8), none, .take 74⟩])
             .ret)
            .skip))
          (.seq
           (.dreg [(12, 12), (76, 10), (10, 10), (6, 6)] [⟨(some 75), none, .load (some 6) (.t 12)⟩,
             ⟨(some 76), none, .faddr (.t 10) 0⟩,
             ⟨(some 77), none, .load none (.t 76)⟩,
             ⟨(some 78), none, .len false (.t 77)⟩,
             ⟨(some 79), none, .bin .sub (.t 78) (.c (.int .i64 1))⟩,
             ⟨none, none, .store 6 (.t 6) (.t 75)⟩,
             ⟨(some 7), none, .take 79⟩,
             ⟨(some 8), none, .mv (.c (.int .i64 0))⟩])
           .ret))))))))))
def ar42 : List AR := [.c 6 (some 6), .t 7, .t 8]
theorem comp42 : Try.f42.body.bind (comp Try.prog 80) = some ac42 := by kernel_rfl
theorem cres42 : compRes Try.prog Try.f42.results.toList = some ar42 := by kernel_rfl
/-- (bilander/bilanderref06.Dev).step -/
def ac59 : AC :=
 (.seq
  (.reg [⟨(some 2), none, .box 6 (.t 0)⟩,
    ⟨(some 3), none, .box 6 (.t 1)⟩,
    ⟨(some 4), none, .alloc [.nils, (.int .i64 0), (.bool false), (.int .i64 0), (.int .i64 0), (.bool false)]⟩,
    ⟨(some 5), none, .mv (.c (.int .i64 0))⟩])
  (.seq
   (.reg [⟨(some 7), none, .faddr (.t 2) 3⟩,
     ⟨(some 8), none, .load none (.t 7)⟩,
     ⟨(some 9), none, .bin .add (.t 8) (.c (.int .i64 1))⟩,
     ⟨(some 10), none, .faddr (.t 2) 3⟩,
     ⟨none, none, .store 1 (.t 10) (.t 9)⟩])
   (.seq
    (.reg [⟨(some 11), none, .faddr (.t 2) 4⟩,
      ⟨(some 12), none, .load none (.t 11)⟩,
      ⟨(some 13), none, .bin .eql (.t 12) (.c (.int .i64 0))⟩,
      ⟨(some 6), none, .take 13⟩])
    (.seq
     (.seq
      (.reg [⟨(some 14), none, .faddr (.t 2) 4⟩,
        ⟨(some 15), none, .load none (.t 14)⟩,
        ⟨(some 16), none, .bin .geq (.t 15) (.c (.int .i64 0))⟩])
      (.cond (.t 16)
       (.reg [⟨(some 17), none, .faddr (.t 2) 4⟩,
         ⟨(some 18), none, .load none (.t 17)⟩,
         ⟨(some 19), none, .bin .sub (.t 18) (.c (.int .i64 1))⟩,
         ⟨(some 20), none, .faddr (.t 2) 4⟩,
         ⟨none, none, .store 1 (.t 20) (.t 19)⟩])
       .skip))
     (.seq
      (.dreg [(21, 2), (2, 2), (23, 2), (25, 3), (3, 3), (26, 3)] [⟨(some 21), none, .faddr (.t 2) 3⟩,
        ⟨(some 22), none, .load none (.t 21)⟩,
        ⟨(some 23), none, .faddr (.t 2) 4⟩,
        ⟨(some 24), none, .load none (.t 23)⟩,
        ⟨(some 25), none, .faddr (.t 3) 3⟩,
        ⟨none, none, .store 1 (.t 25) (.t 22)⟩,
        ⟨(some 26), none, .faddr (.t 3) 4⟩,
        ⟨none, none, .store 1 (.t 26) (.t 24)⟩])
      (.seq
       (.seq
        (.reg [⟨(some 27), none, .mv (.t 6)⟩,
          ⟨(some 28), none, .una .not (.t 27)⟩])
        (.cond (.t 28)
         (.seq
          (.reg [⟨(some 29), none, .load (some 6) (.t 3)⟩,
            ⟨none, none, .store 6 (.t 4) (.t 29)⟩,
            ⟨(some 5), none, .mv (.c (.int .i64 0))⟩])
          .ret)
         .skip))
       (.seq
        (.seq
         (.reg [⟨(some 30), none, .faddr (.t 2) 5⟩,
           ⟨(some 31), none, .load none (.t 30)⟩])
         (.cond (.t 31)
          (.reg [⟨(some 32), none, .load (some 6) (.t 3)⟩,
            ⟨none, none, .store 6 (.t 2) (.t 32)⟩])
          .skip))
        (.seq
         (.reg [⟨(some 33), none, .faddr (.t 2) 2⟩,
           ⟨none, none, .store 1 (.t 33) (.c (.bool true))⟩])
         (.seq
          (.reg [⟨(some 34), none, .load (some 6) (.t 2)⟩,
            ⟨none, none, .store 6 (.t 4) (.t 34)⟩,
            ⟨(some 5), none, .mv (.c (.int .i64 10))⟩])
          .ret)))))))))
def ar59 : List AR := [.c 4 (some 6), .t 5]
theorem comp59 : Try.f59.body.bind (comp Try.prog 35) = some ac59 := by kernel_rfl
theorem cres59 : compRes Try.prog Try.f59.results.toList = some ar59 := by kernel_rfl
/-- (bilander/bilanderref06.Dev).safe -/
def ac60 : AC :=
 (.seq
  (.reg [⟨(some 1), none, .box 6 (.t 0)⟩,
    ⟨(some 2), none, .alloc [.nils, (.int .i64 0), (.bool false), (.int .i64 0), (.int .i64 0), (.bool false)]⟩])
  (.seq
   (.seq
    (.reg [⟨(some 3), none, .mv (.c (.int .i64 0))⟩])
    (.block 0
     (.loop
      (.seq
       (.seq
        (.reg [⟨(some 5), none, .mv (.t 3)⟩,
          ⟨(some 6), none, .faddr (.t 1) 0⟩,
          ⟨(some 7), none, .load none (.t 6)⟩,
          ⟨(some 8), none, .len false (.t 7)⟩,
          ⟨(some 9), none, .bin .lss (.t 5) (.t 8)⟩])
        (.cond (.t 9)
         .skip
         (.exit 0)))
       (.seq
        (.block 1
         (.seq
          (.reg [⟨(some 12), none, .faddr (.t 1) 0⟩,
            ⟨(some 13), none, .load none (.t 12)⟩,
            ⟨(some 14), none, .mv (.t 3)⟩,
            ⟨(some 15), none, .iaddr 3 (.t 13) (.t 14)⟩,
            ⟨(some 16), none, .load (some 3) (.t 15)⟩,
            ⟨(some 4), none, .alloc [.nils, (.int .i64 0), (.bool false)]⟩,
            ⟨none, none, .store 3 (.t 4) (.t 16)⟩])
          (.seq
           (.reg [⟨(some 17), none, .faddr (.t 4) 1⟩,
             ⟨none, none, .store 1 (.t 17) (.c (.int .i64 0))⟩])
           (.reg [⟨(some 18), none, .load (some 6) (.t 1)⟩,
             ⟨(some 19), none, .mv (.t 3)⟩,
             ⟨(some 20), none, .load (some 3) (.t 4)⟩,
             ⟨(some 21), none, .call 62 [(.t 18), (.t 19), (.t 20)]⟩,
             ⟨none, none, .store 6 (.t 1) (.t 21)⟩]))))
        (.reg [⟨(some 10), none, .take 3⟩,
          ⟨(some 11), none, .bin .add (.t 10) (.c (.int .i64 1))⟩,
          ⟨(some 3), none, .take 11⟩]))))))
   (.seq
    (.reg [⟨(some 22), none, .load (some 6) (.t 1)⟩,
      ⟨none, none, .store 6 (.t 2) (.t 22)⟩])
    .ret)))
def ar60 : List AR := [.c 2 (some 6)]
theorem comp60 : Try.f60.body.bind (comp Try.prog 23) = some ac60 := by kernel_rfl
theorem cres60 : compRes Try.prog Try.f60.results.toList = some ar60 := by kernel_rfl
/-- (bilander/bilanderref06.Dev).at -/
def ac61 : AC :=
 (.seq
  (.reg [⟨(some 2), none, .box 6 (.t 0)⟩,
    ⟨(some 4), none, .mv (.c (.int .i64 0))⟩])
  (.seq
   (.block 0
    (.seq
     (.reg [⟨(some 6), none, .faddr (.t 2) 2⟩,
       ⟨(some 7), none, .load none (.t 6)⟩,
       ⟨(some 5), none, .take 7⟩])
     (.cond (.t 5)
      (.seq
       (.reg [⟨(some 4), none, .mv (.c (.int .i64 10))⟩])
       .ret)
      (.seq
       (.reg [⟨(some 9), none, .mv (.t 1)⟩,
         ⟨(some 10), none, .bin .lss (.t 9) (.c (.int .i64 0))⟩,
         ⟨(some 11), none, .take 10⟩,
         ⟨(some 12), (some (11, false)), .mv (.t 1)⟩,
         ⟨(some 13), (some (11, false)), .faddr (.t 2) 0⟩,
         ⟨(some 14), (some (11, false)), .load none (.t 13)⟩,
         ⟨(some 15), (some (11, false)), .len false (.t 14)⟩,
         ⟨(some 16), (some (11, false)), .bin .geq (.t 12) (.t 15)⟩,
         ⟨(some 17), none, .pick (.t 11) (.c (.bool true)) (.t 16)⟩,
         ⟨(some 8), none, .take 17⟩])
       (.cond (.t 8)
        (.seq
         (.reg [⟨(some 4), none, .mv (.c (.int .i64 11))⟩])
         .ret)
        .skip)))))
   (.seq
    (.reg [⟨(some 4), none, .mv (.c (.int .i64 0))⟩])
    .ret)))
def ar61 : List AR := [.t 4]
theorem comp61 : Try.f61.body.bind (comp Try.prog 18) = some ac61 := by kernel_rfl
theorem cres61 : compRes Try.prog Try.f61.results.toList = some ar61 := by kernel_rfl
/-- (bilander/bilanderref06.Dev).put -/
def ac62 : AC :=
 (.seq
  (.reg [⟨(some 3), none, .box 6 (.t 0)⟩,
    ⟨(some 5), none, .box 3 (.t 2)⟩,
    ⟨(some 6), none, .alloc [.nils, (.int .i64 0), (.bool false), (.int .i64 0), (.int .i64 0), (.bool false)]⟩])
  (.seq
   (.reg [⟨(some 7), none, .mv (.c .nils)⟩])
   (.seq
    (.reg [⟨(some 8), none, .take 7⟩,
      ⟨(some 9), none, .faddr (.t 3) 0⟩,
      ⟨(some 10), none, .load none (.t 9)⟩,
      ⟨(some 11), none, .app 3 40 8 (.t 10)⟩,
      ⟨(some 12), none, .faddr (.t 3) 0⟩,
      ⟨none, none, .storeO (.t 12) 11⟩])
    (.seq
     (.reg [⟨(some 13), none, .faddr (.t 3) 0⟩,
       ⟨(some 14), none, .load none (.t 13)⟩,
       ⟨(some 15), none, .mv (.t 1)⟩,
       ⟨(some 16), none, .load (some 3) (.t 5)⟩,
       ⟨(some 17), none, .iaddr 3 (.t 14) (.t 15)⟩,
       ⟨none, none, .store 3 (.t 17) (.t 16)⟩])
     (.seq
      (.reg [⟨(some 18), none, .load (some 6) (.t 3)⟩,
        ⟨none, none, .store 6 (.t 6) (.t 18)⟩])
      .ret)))))
def ar62 : List AR := [.c 6 (some 6)]
theorem comp62 : Try.f62.body.bind (comp Try.prog 19) = some ac62 := by kernel_rfl
theorem cres62 : compRes Try.prog Try.f62.results.toList = some ar62 := by kernel_rfl
/-- bilander/bilanderref06.next -/
def ac63 : AC :=
 (.seq
  (.reg [⟨(some 2), none, .mv (.c (.int .i64 0))⟩,
    ⟨(some 3), none, .mv (.c .nils)⟩])
  (.seq
   (.seq
    (.reg [⟨(some 4), none, .mv (.t 0)⟩,
      ⟨(some 5), none, .len false (.t 4)⟩,
      ⟨(some 6), none, .bin .eql (.t 5) (.c (.int .i64 0))⟩])
    (.cond (.t 6)
     (.seq
      (.reg [⟨(some 2), none, .mv (.c (.int .i64 0))⟩,
        ⟨(some 3), none, .mv (.c .nils)⟩])
      .ret)
     .skip))
   (.seq
    (.dreg [] [⟨(some 7), none, .mv (.t 0)⟩,
      ⟨(some 8), none, .iaddr 1 (.t 7) (.c (.int .i64 0))⟩,
      ⟨(some 9), none, .load none (.t 8)⟩,
      ⟨(some 10), none, .conv .i64 (.t 9)⟩,
      ⟨(some 11), none, .mv (.t 0)⟩,
      ⟨(some 12), none, .slc false 1 (.t 11) (some (.c (.int .i64 1))) none⟩,
      ⟨(some 2), none, .take 10⟩,
      ⟨(some 3), none, .take 12⟩])
    .ret)))
def ar63 : List AR := [.t 2, .t 3]
theorem comp63 : Try.f63.body.bind (comp Try.prog 13) = some ac63 := by kernel_rfl
theorem cres63 : compRes Try.prog Try.f63.results.toList = some ar63 := by kernel_rfl
/-- (bilander/bilanderref06.Dev).State -/
def ac64 : AC :=
 (.seq
  (.reg [⟨(some 2), none, .box 6 (.t 0)⟩,
    ⟨(some 4), none, .mv (.c (.int .i64 0))⟩])
  (.seq
   (.block 0
    (.seq
     (.reg [⟨(some 6), none, .mv (.t 1)⟩,
       ⟨(some 7), none, .bin .lss (.t 6) (.c (.int .i64 0))⟩,
       ⟨(some 8), none, .take 7⟩,
       ⟨(some 9), (some (8, false)), .mv (.t 1)⟩,
       ⟨(some 10), (some (8, false)), .faddr (.t 2) 0⟩,
       ⟨(some 11), (some (8, false)), .load none (.t 10)⟩,
       ⟨(some 12), (some (8, false)), .len false (.t 11)⟩,
       ⟨(some 13), (some (8, false)), .bin .geq (.t 9) (.t 12)⟩,
       ⟨(some 14), none, .pick (.t 8) (.c (.bool true)) (.t 13)⟩,
       ⟨(some 5), none, .take 14⟩])
     (.cond (.t 5)
      (.seq
       (.reg [⟨(some 4), none, .mv (.c (.int .i64 0))⟩])
       .ret)
      (.seq
       (.dreg [] [⟨(some 16), none, .faddr (.t 2) 0⟩,
         ⟨(some 17), none, .load none (.t 16)⟩,
         ⟨(some 18), none, .mv (.t 1)⟩,
         ⟨(some 19), none, .iaddr 3 (.t 17) (.t 18)⟩,
         ⟨(some 20), none, .faddr (.t 19) 2⟩,
         ⟨(some 21), none, .load none (.t 20)⟩,
         ⟨(some 22), none, .mv (.t 21)⟩,
         ⟨(some 23), (some (22, false)), .faddr (.t 2) 0⟩,
         ⟨(some 24), (some (22, false)), .load none (.t 23)⟩,
         ⟨(some 25), (some (22, false)), .mv (.t 1)⟩,
         ⟨(some 26), (some (22, false)), .iaddr 3 (.t 24) (.t 25)⟩,
         ⟨(some 27), (some (22, false)), .faddr (.t 26) 0⟩,
         ⟨(some 28), (some (22, false)), .load none (.t 27)⟩,
         ⟨(some 29), (some (22, false)), .len false (.t 28)⟩,
         ⟨(some 30), (some (22, false)), .faddr (.t 2) 1⟩,
         ⟨(some 31), (some (22, false)), .load none (.t 30)⟩,
         ⟨(some 32), (some (22, false)), .bin .eql (.t 29) (.t 31)⟩,
         ⟨(some 33), none, .pick (.t 22) (.c (.bool true)) (.t 32)⟩,
         ⟨(some 15), none, .take 33⟩])
       (.cond (.t 15)
        (.seq
         (.reg [⟨(some 4), none, .mv (.c (.int .i64 2))⟩])
         .ret)
        (.seq
         (.reg [⟨(some 35), none, .faddr (.t 2) 0⟩,
           ⟨(some 36), none, .load none (.t 35)⟩,
           ⟨(some 37), none, .mv (.t 1)⟩,
           ⟨(some 38), none, .iaddr 3 (.t 36) (.t 37)⟩,
           ⟨(some 39), none, .faddr (.t 38) 0⟩,
           ⟨(some 40), none, .load none (.t 39)⟩,
           ⟨(some 41), none, .len false (.t 40)⟩,
           ⟨(some 42), none, .bin .eql (.t 41) (.c (.int .i64 0))⟩,
           ⟨(some 34), none, .take 42⟩])
         (.cond (.t 34)
          (.seq
           (.reg [⟨(some 4), none, .mv (.c (.int .i64 0))⟩])
           .ret)
          .skip)))))))
   (.seq
    (.reg [⟨(some 4), none, .mv (.c (.int .i64 1))⟩])
    .ret)))
def ar64 : List AR := [.t 4]
theorem comp64 : Try.f64.body.bind (comp Try.prog 43) = some ac64 := by kernel_rfl
theorem cres64 : compRes Try.prog Try.f64.results.toList = some ar64 := by kernel_rfl
/-- (bilander/bilanderref06.Dev).Opened -/
def ac65 : AC :=
 (.seq
  (.reg [⟨(some 1), none, .box 6 (.t 0)⟩,
    ⟨(some 2), none, .mv (.c (.int .i64 0))⟩])
  (.seq
   (.reg [⟨(some 3), none, .mv (.c (.int .i64 0))⟩])
   (.seq
    (.seq
     (.reg [⟨(some 4), none, .mv (.c (.int .i64 0))⟩])
     (.block 0
      (.loop
       (.seq
        (.seq
         (.reg [⟨(some 5), none, .mv (.t 4)⟩,
           ⟨(some 6), none, .faddr (.t 1) 0⟩,
           ⟨(some 7), none, .load none (.t 6)⟩,
           ⟨(some 8), none, .len false (.t 7)⟩,
           ⟨(some 9), none, .bin .lss (.t 5) (.t 8)⟩])
         (.cond (.t 9)
          .skip
          (.exit 0)))
        (.seq
         (.block 1
          (.seq
           (.reg [⟨(some 12), none, .load (some 6) (.t 1)⟩,
             ⟨(some 13), none, .mv (.t 4)⟩,
             ⟨(some 14), none, .call 64 [(.t 12), (.t 13)]⟩,
             ⟨(some 15), none, .bin .eql (.t 14) (.c (.int .i64 1))⟩])
           (.cond (.t 15)
            (.reg [⟨(some 16), none, .take 3⟩,
              ⟨(some 17), none, .bin .add (.t 16) (.c (.int .i64 1))⟩,
              ⟨(some 3), none, .take 17⟩])
            .skip)))
         (.reg [⟨(some 10), none, .take 4⟩,
           ⟨(some 11), none, .bin .add (.t 10) (.c (.int .i64 1))⟩,
           ⟨(some 4), none, .take 11⟩]))))))
    (.seq
     (.reg [⟨(some 18), none, .take 3⟩,
       ⟨(some 2), none, .take 18⟩])
     .ret))))
def ar65 : List AR := [.t 2]
theorem comp65 : Try.f65.body.bind (comp Try.prog 19) = some ac65 := by kernel_rfl
theorem cres65 : compRes Try.prog Try.f65.results.toList = some ar65 := by kernel_rfl
end Go.Proofs.Ytifemhfpcichfaa

/- Zone: the document's device; small functions. -/



set_option linter.unusedSimpArgs false
set_option linter.unusedVariables false
set_option maxHeartbeats 8000000
namespace Go.Proofs.Ytifemhfpcichfaa

open Go.Av

structure RZ where
  b : Option (List ByteArray)
  lo : Int
  fin : Bool
def bSV : Option (List ByteArray) → SV
  | none => .nils
  | some l => .sl 1 (l.map SV.str)
def bl (b : Option (List ByteArray)) : List ByteArray := b.getD []
def RZ.cells (z : RZ) : List SV := [bSV z.b, .int .i64 z.lo, .bool z.fin]
def RZ.sv (z : RZ) : SV := .agg z.cells
def rz0 : RZ := ⟨none, 0, false⟩
def ZL (l : List RZ) : List SV := l.map RZ.sv
@[simp] theorem ZL_length (l : List RZ) : (ZL l).length = l.length := by simp [ZL]
theorem ZL_get (l : List RZ) {i : Nat} (h : i < l.length) : (ZL l)[i]?.getD .undef = (l.getD i rz0).sv := by simp [ZL, List.getD_eq_getElem?_getD, h]
structure RDv where
  z : List RZ
  n : Int
  down : Bool
  ops : Int
  fails : Int
  done : Bool
def RDv.cells (d : RDv) : List SV := [.sl 3 (ZL d.z), .int .i64 d.n, .bool d.down, .int .i64 d.ops, .int .i64 d.fails, .bool d.done]
def RDv.sv (d : RDv) : SV := .agg d.cells
def rat (d : RDv) (z : Int) : Int := if d.down = true then 10 else if z < 0 ∨ (d.z.length : Int) ≤ z then 11 else 0
theorem rat_pure (d : RDv) (z : Int) : Pure Try.prog 61 [d.sv, .int .i64 z] (.sv (.int .i64 (rat d z))) := by
  refine pure_go R0_ok Try.func61 Try.ntmps61 comp61 cres61 (by decide) (by simp [RDv.sv, RDv.cells]) ?_
  unfold rat
  cases h : d.down with
  | true => simp [ac61, ar61, R0, RDv.sv, RDv.cells, h]
  | false =>
    by_cases h1 : z < 0
    · simp [ac61, ar61, R0, RDv.sv, RDv.cells, h, h1]
    · by_cases h2 : (d.z.length : Int) ≤ z
      · simp [ac61, ar61, R0, RDv.sv, RDv.cells, h, h1, h2]
      · simp [ac61, ar61, R0, RDv.sv, RDv.cells, h, h1, h2]
def rnext (f : List UInt8) : Int × List UInt8 := match f with | [] => (0, []) | b :: r => (b.toNat, r)
def rput (d : RDv) (z : Nat) (x : RZ) : RDv := { d with z := d.z.set z x }
end Go.Proofs.Ytifemhfpcichfaa

/- Zone: the device on the heap; what only looks. -/












set_option linter.unusedSimpArgs false
set_option linter.unusedVariables false
set_option maxHeartbeats 4000000
set_option maxRecDepth 1000000
namespace Go.Proofs.Ytifemhfpcichfaa
open Go.RowKit
open Go.Av

theorem asideI {p : Prop} (h : p) : Aside p := h
theorem ext_drew (w : World) : Ext (fun _ => False) w w.drew := ⟨rfl, rfl, rfl, Nat.le_refl _, fun _ _ _ => rfl⟩
theorem ext_alloc1 (w : World) (o : Obj) : Ext (fun _ => False) w (w.alloc o) := ⟨rfl, rfl, rfl, by simp, fun k hk _ => by rw [alloc_get, if_neg (by omega)]⟩
/-- A zone. -/
structure Zn where
  wr : Int
  lo : Int
  fin : Bool
def z0 : Zn := ⟨0, 0, false⟩
def encZ (z : Zn) : List Value := [.int .i64 z.wr, .int .i64 z.lo, .bool z.fin]
def RowZ (c : Array Value) (l : List Zn) : Prop := ∀ i, i < l.length → ∀ q, q < 3 → c[i * 3 + q]? = some ((encZ (l.getD i z0)).getD q Go.undef)
/-- A device. -/
structure Dv where
  zs : List Zn
  nb : Int
  n : Nat
  D : DataW Value
  down : Bool
  ops : Int
  fails : Int
  done : Bool
/-- Where a device lies. -/
structure Dp where
  p : Nat
  za : Nat
  mb : Nat
  cap : Nat
def RH (v : Value) : Option (DataW Value × List MemPlace) := some (.held v, [])
def devCells (q : Dp) (d : Dv) : List Value := [.slice (some ⟨q.za, 0, none⟩) d.zs.length q.cap, .int .i64 d.nb, .map (some q.mb), .bool d.down, .int .i64 d.ops, .int .i64 d.fails, .bool d.done]
structure DevAt (w : World) (q : Dp) (d : Dv) : Prop where
  bp : w.heap[q.p]? = some (.cells (devCells q d).toArray 83 (0, 0))
  bz : ∃ c te fr, w.heap[q.za]? = some (.cells c te fr) ∧ Unfrozen c fr ∧ d.zs.length * 3 ≤ c.size ∧ RowZ c d.zs
  bm : w.ownsMap Try.prog 88 RH q.mb d.n d.D
  ne1 : q.p ≠ q.za
  ne2 : q.p ≠ q.mb
  ne3 : q.za ≠ q.mb
  len : d.zs.length ≤ 1000
theorem DevAt.ext {w w' : World} {q : Dp} {d : Dv} (h : DevAt w q d) (k : Ext (fun _ => False) w w') : DevAt w' q d := by
  obtain ⟨c, te, fr, h1, h2, h3, h4⟩ := h.bz
  obtain ⟨es, cl, m1, m2⟩ := h.bm
  exact ⟨(k.block _ (Array.getElem?_eq_some_iff.1 h.bp).1 id).trans h.bp, ⟨c, te, fr, (k.block _ (Array.getElem?_eq_some_iff.1 h1).1 id).trans h1, h2, h3, h4⟩, ⟨es, cl, (k.block _ (Array.getElem?_eq_some_iff.1 m1).1 id).trans m1, m2⟩, h.ne1, h.ne2, h.ne3, h.len⟩
theorem DevAt.cells {w : World} {q : Dp} {d : Dv} (h : DevAt w q d) :
    (w.cell? ⟨q.p, 0, none⟩ = some (.slice (some ⟨q.za, 0, none⟩) d.zs.length q.cap) ∧ w.cell? ⟨q.p, 1, none⟩ = some (.int .i64 d.nb) ∧ w.cell? ⟨q.p, 2, none⟩ = some (.map (some q.mb)) ∧ w.cell? ⟨q.p, 3, none⟩ = some (.bool d.down) ∧
      w.cell? ⟨q.p, 4, none⟩ = some (.int .i64 d.ops) ∧ w.cell? ⟨q.p, 5, none⟩ = some (.int .i64 d.fails) ∧ w.cell? ⟨q.p, 6, none⟩ = some (.bool d.done)) ∧
    (w.frozen? ⟨q.p, 0, none⟩ = false ∧ w.frozen? ⟨q.p, 1, none⟩ = false ∧ w.frozen? ⟨q.p, 2, none⟩ = false ∧ w.frozen? ⟨q.p, 3, none⟩ = false ∧ w.frozen? ⟨q.p, 4, none⟩ = false ∧ w.frozen? ⟨q.p, 5, none⟩ = false ∧ w.frozen? ⟨q.p, 6, none⟩ = false) := by
  refine ⟨⟨?_, ?_, ?_, ?_, ?_, ?_, ?_⟩, ⟨?_, ?_, ?_, ?_, ?_, ?_, ?_⟩⟩ <;> simp [World.cell?, World.frozen?, h.bp, devCells]
theorem DevAt.zcells {w : World} {q : Dp} {d : Dv} (h : DevAt w q d) {i : Nat} (hi : i < d.zs.length) :
    (w.cell? ⟨q.za, i * 3, none⟩ = some (.int .i64 (d.zs.getD i z0).wr) ∧ w.cell? ⟨q.za, i * 3 + 1, none⟩ = some (.int .i64 (d.zs.getD i z0).lo) ∧ w.cell? ⟨q.za, i * 3 + 2, none⟩ = some (.bool (d.zs.getD i z0).fin)) ∧
    (w.frozen? ⟨q.za, i * 3, none⟩ = false ∧ w.frozen? ⟨q.za, i * 3 + 1, none⟩ = false ∧ w.frozen? ⟨q.za, i * 3 + 2, none⟩ = false) := by
  obtain ⟨c, te, fr, h1, h2, h3, h4⟩ := h.bz
  have hc : ∀ k, k < 3 → w.cell? ⟨q.za, i * 3 + k, none⟩ = some ((encZ (d.zs.getD i z0)).getD k Go.undef) := fun k hk => by
    rw [cell_of_block h1]; exact h4 i hi k hk
  have hf : ∀ k, k < 3 → w.frozen? ⟨q.za, i * 3 + k, none⟩ = false := fun k hk => by
    have := h2.not (i * 3 + k) (by omega)
    simp only [World.frozen?, h1]; simp; omega
  exact ⟨⟨hc 0 (by omega), hc 1 (by omega), hc 2 (by omega)⟩, hf 0 (by omega), hf 1 (by omega), hf 2 (by omega)⟩
end Go.Proofs.Ytifemhfpcichfaa

/- Zone: the document's put, walked raw. -/


set_option linter.unusedSimpArgs false
set_option linter.unusedVariables false
set_option maxHeartbeats 4000000
set_option maxRecDepth 1000000
namespace Go.Proofs.Ytifemhfpcichfaa
open Go.RowKit
open Go.Av

/-- A row of structs of three cells, by content. -/
def RowV (mu : Mem) (c : Array Value) (xs : List SV) : Prop := ∀ i q, i < xs.length → q < 3 → ∃ v, c[i * 3 + q]? = some v ∧ v.oneCell' = true ∧ Rep mu ((xs.getD i .undef).cell q) v
theorem append_rowV {P : Program} {mu : Mem} {W : World} (hm : MemOK mu W) {xs : List SV} {v : Value} (hv : Rep mu (.sl 3 xs) v) (h0 : 0 < xs.length) (hl : xs.length ≤ 1000) {t e : TypeId} {i : TypeInfo} {z : Value}
    (ht : P.underlying t = some (.slice e)) (hi : P.info? e = some i) (h3 : i.size = 3) (hb : i.bytes ≤ 1000) (hz : i.zero = some z) (hzs : z.cells.size = 3) (ty : TypeId) :
    ∃ b cap c w2, (Builtin.append_ #[t, t] ty #[.slice none 0 0, v]).run P W = .ok (.slice (some ⟨b, 0, none⟩) xs.length cap) w2 ∧ W.heap.size ≤ b ∧ Ext (fun _ => False) W w2 ∧ w2.heap[b]? = some (.cells c e (0, 0)) ∧ xs.length ≤ cap ∧ cap * 3 ≤ c.size ∧ RowV mu c xs := by
  obtain ⟨vs, f1, f2, f3, f4, f5⟩ := firstCells_sl (P := P) hm hv
  have hd : MemOK mu W.drew := hm
  rcases hv.inv_sl with ⟨_, hx⟩ | ⟨b0, off0, cap0, vals, rfl, q1, q2, q3, q4⟩
  · subst hx; simp at h0
  obtain ⟨nc, hle, hrun⟩ := run_append_out (P := P) (w := W) (t := t) (tx := t) (ty := ty) (q := none) (n := 0) (m := xs.length) (cap := 0) (old := #[]) (new := vs) (vx := .slice (some ⟨b0, off0, none⟩) xs.length cap0) ht hi hz ht (fun _ => by simp) (by rfl) (by rw [h3]; exact f1 _ hd) (by rfl) (by omega) (by have := Nat.mul_le_mul (show 0 + xs.length ≤ 1000 by omega) hb; omega) (by omega)
  rw [Nat.zero_add] at hrun hle
  refine ⟨W.heap.size, nc, #[] ++ vs ++ Builtin.zeroCells z.cells (nc - xs.length), _, hrun, Nat.le_refl _, ⟨rfl, rfl, rfl, by simp, fun k hk _ => ?_⟩, ?_, hle, ?_, fun k q hk hq => ?_⟩
  · rw [alloc_get, if_neg (by simp; omega)]; rfl
  · rw [alloc_get, if_pos (by simp)]
  · simp [f2, Builtin.zeroCells, hzs, Nat.sub_mul]
    have : xs.length * 3 ≤ nc * 3 := Nat.mul_le_mul_right _ hle
    omega
  · have hlt : k * 3 + q < vs.size := by rw [f2]; omega
    have h5 := f5 k q hk hq
    rw [Array.getD_eq_getD_getElem?, Array.getElem?_eq_getElem hlt] at h5
    refine ⟨vs[k * 3 + q], ?_, f4 _ (by simp), h5⟩
    rw [Array.getElem?_append_left (by simp; omega)]
    simp only [Array.empty_append]
    rw [Array.getElem?_eq_getElem hlt]
theorem at_app {P : Program} (w : World) {ops : Array Oper} {rest : List Oper} {o : Oper} {a : Act} {Q : Exit → Act → World → Prop} (hg : o.guard = none) (s x : Operand) (t : TypeId)
    (hop : o.op = .call { callee := .builtin .append, args := #[s, x], argTypes := #[t, t] }) {v u : Value} (hs : a.eval s = v) (hx : a.eval x = u) {v2 : Value} {w2 : World}
    (hrun : (Builtin.append_ #[t, t] o.type #[v, u]).run P w = .ok v2 w2) (hK : wpList P ops Q rest (a.put o.dst v2) w2) : wpList P ops Q (o :: rest) a w := by
  refine wpList_plain hg fun K hK' => ?_
  unfold Oper.wp
  simp [execOp, hop, resolve, invoke, builtin, hs, hx, hrun, Result.andThen]
  exact hK' _ _ hK
theorem RowV.mono {mu mu' : Mem} {c : Array Value} {xs : List SV} (h : RowV mu c xs) (k : mu.le mu') : RowV mu' c xs := fun i q hi hq => by
  obtain ⟨v, h1, h2, h3⟩ := h i q hi hq
  exact ⟨v, h1, h2, h3.mono k⟩
/-- The memory with a row more. -/
def memRow (mu : Mem) (b n : Nat) (c : Array Value) : Mem := fun b' j => if b' = b ∧ j < n * 3 then c[j]? else mu b' j
theorem memRow_spec {mu : Mem} {w : World} {b : Nat} {c : Array Value} {te : TypeId} {xs : List SV} (hm : MemOK mu w) (hb : w.heap[b]? = some (.cells c te (0, 0))) (hn : ∀ j, mu b j = none) (hr : RowV mu c xs) (hnc : ∀ x ∈ xs, x.nc = 3) :
    MemOK (memRow mu b xs.length c) w ∧ mu.le (memRow mu b xs.length c) ∧ (∀ b' j, b' ≠ b → memRow mu b xs.length c b' j = mu b' j) ∧
    ∀ cap, xs.length ≤ cap → Rep (memRow mu b xs.length c) (.sl 3 xs) (.slice (some ⟨b, 0, none⟩) xs.length cap) := by
  have hle : mu.le (memRow mu b xs.length c) := by
    intro b' j v hv
    unfold memRow
    rw [if_neg (fun q => by rw [q.1, hn] at hv; cases hv)]
    exact hv
  refine ⟨?_, hle, ?_, ?_⟩
  · intro b' j v hv
    unfold memRow at hv
    split at hv
    · rename_i q
      obtain ⟨rfl, q1⟩ := q
      refine ⟨by rw [cell_of_block hb]; exact hv, ?_⟩
      obtain ⟨v', h1, h2, _⟩ := hr (j / 3) (j % 3) (by omega) (Nat.mod_lt _ (by omega))
      rw [show j / 3 * 3 + j % 3 = j by omega, hv] at h1
      cases h1
      exact h2
    · exact hm b' j v hv
  · intro b' j hne
    unfold memRow
    rw [if_neg (fun q => hne q.1)]
  · intro cap hc
    refine Rep.sl 3 xs b 0 cap (fun i q => (c[i * 3 + q]?).getD Go.undef) hc hnc (fun i j hi hj => ?_) (fun i j hi hj => ?_)
    · obtain ⟨v, h1, _⟩ := hr i j hi hj
      unfold memRow
      rw [if_pos ⟨rfl, by omega⟩, Nat.zero_add, h1]; rfl
    · obtain ⟨v, h1, _, h3⟩ := hr i j hi hj
      simp only [h1, Option.getD_some]
      exact h3.mono hle
end Go.Proofs.Ytifemhfpcichfaa

/- Zone: what only looks. -/


set_option linter.unusedSimpArgs false
set_option linter.unusedVariables false
set_option maxHeartbeats 4000000
set_option maxRecDepth 1000000
namespace Go.Proofs.Ytifemhfpcichfaa
open Go.RowKit
open Go.Av

def hasZ (d : Dv) (z : Int) : Bool := decide (0 ≤ z) && decide (z < d.zs.length)
theorem has_raw {w : World} {q : Dp} {d : Dv} (h : DevAt w q d) (z : Int) : Calls Try.prog 52 #[.pointer (some ⟨q.p, 0, none⟩), .int .i64 z] w fun e w' => e = .returned (.bool (hasZ d z)) ∧ w' = w := by
  obtain ⟨⟨a0, a1, a2, a3, a4, a5, a6⟩, b0, b1, b2, b3, b4, b5, b6⟩ := h.cells
  unfold hasZ
  by_cases h0 : 0 ≤ z
  · go_enter Try.func52, Try.ntmps52
    go_wp2
    go_ret
    refine ⟨?_, rfl⟩
    simp [h0]
  · have h0' : z < 0 := by omega
    go_enter Try.func52, Try.ntmps52
    go_wp2
    go_ret
    refine ⟨?_, rfl⟩
    simp [h0]
    intro k; omega
def askedD (d : Dv) : Int := if d.down = true then 10 else 0
theorem asked_raw {w : World} {q : Dp} {d : Dv} (h : DevAt w q d) : Calls Try.prog 49 #[.pointer (some ⟨q.p, 0, none⟩)] w fun e w' => e = .returned (.int .i64 (askedD d)) ∧ w' = w := by
  obtain ⟨⟨a0, a1, a2, a3, a4, a5, a6⟩, b0, b1, b2, b3, b4, b5, b6⟩ := h.cells
  unfold askedD
  cases hd : d.down with
  | true =>
    rw [hd] at a3
    go_enter Try.func49, Try.ntmps49
    go_wp2
    go_ret
    exact ⟨rfl, rfl⟩
  | false =>
    rw [hd] at a3
    go_enter Try.func49, Try.ntmps49
    go_wp2
    go_ret
    exact ⟨rfl, rfl⟩
def atD (d : Dv) (z : Int) : Int := if askedD d ≠ 0 then askedD d else if hasZ d z = false then 11 else 0
theorem at_raw {w : World} {q : Dp} {d : Dv} (h : DevAt w q d) (z : Int) : Calls Try.prog 46 #[.pointer (some ⟨q.p, 0, none⟩), .int .i64 z] w fun e w' => e = .returned (.int .i64 (atD d z)) ∧ w' = w := by
  have HA := asideI (asked_raw h)
  have HH := asideI (has_raw h z)
  unfold atD
  have ha : askedD d = 0 ∨ askedD d = 10 := by unfold askedD; split <;> simp
  generalize askedD d = a at HA ha ⊢
  generalize hasZ d z = b at HH ⊢
  rcases ha with rfl | rfl <;> cases b <;> (
    go_enter Try.func46, Try.ntmps46
    go_wp2_with (first
      | (go_at_call 49; refine HA.out.mono ?_; rintro e w2 ⟨rfl, rfl⟩; simp only [])
      | (go_at_call 52; refine HH.out.mono ?_; rintro e w2 ⟨rfl, rfl⟩; simp only [])
      | go_in)
    go_ret
    exact ⟨rfl, rfl⟩)
/-- A zone's state. -/
def stZ (nb : Int) (z : Zn) : Int := if z.fin = true ∨ z.wr = nb then 2 else if z.wr = 0 then 0 else 1
def stD (d : Dv) (z : Int) : Int := if hasZ d z = true then stZ d.nb (d.zs.getD z.toNat z0) else 0
theorem hasZ_iff {d : Dv} {z : Int} (h : hasZ d z = true) : 0 ≤ z ∧ z < d.zs.length := by
  simpa [hasZ] using h
theorem state_raw {w : World} {q : Dp} {d : Dv} (h : DevAt w q d) (z : Int) : Calls Try.prog 21 #[.pointer (some ⟨q.p, 0, none⟩), .int .i64 z] w fun e w' => e = .returned (.int .u8 (stD d z)) ∧ Ext (fun _ => False) w w' := by
  have HH := asideI (has_raw h z)
  obtain ⟨⟨a0, a1, a2, a3, a4, a5, a6⟩, b0, b1, b2, b3, b4, b5, b6⟩ := h.cells
  unfold stD
  cases hb : hasZ d z with
  | false =>
    rw [hb] at HH
    go_enter Try.func21, Try.ntmps21
    go_wp2_with (first
      | (go_at_call 52; refine HH.out.mono ?_; rintro e w2 ⟨rfl, rfl⟩; simp only [])
      | go_in)
    go_ret
    exact ⟨rfl, Ext.refl _ _⟩
  | true =>
    obtain ⟨hz0, hz1⟩ := hasZ_iff hb
    rw [hb] at HH
    obtain ⟨i, rfl⟩ : ∃ i : Nat, z = i := ⟨z.toNat, by omega⟩
    have hi : i < d.zs.length := by omega
    have hlen := h.len
    obtain ⟨⟨c0, c1, c2⟩, e0, e1, e2⟩ := h.zcells hi
    have hti : ((i : Int)).toNat = i := by omega
    rw [if_pos rfl, hti]
    have hlt : q.p < w.heap.size := (Array.getElem?_eq_some_iff.1 h.bp).1
    have hne : ¬ (q.p = w.heap.size) := by omega
    clear h hb
    generalize d.zs.getD i z0 = x at *
    obtain ⟨wr, lo, fin⟩ := x
    simp only at *
    cases fin with
    | true =>
      rw [show stZ d.nb ⟨wr, lo, true⟩ = 2 by simp [stZ]]
      go_enter Try.func21, Try.ntmps21
      go_wp2_with (first
        | (go_at_call 52; refine HH.out.mono ?_; rintro e w2 ⟨rfl, rfl⟩; simp only [])
        | go_in)
      go_region
      all_goals go_wp2
      all_goals go_ret
      all_goals exact ⟨rfl, (ext_alloc1 _ _).trans (ext_drew _)⟩
    | false =>
      by_cases h1 : wr = d.nb
      · have h1b : (wr == d.nb) = true := by simpa using h1
        rw [show stZ d.nb ⟨wr, lo, false⟩ = 2 by simp [stZ, h1]]
        go_enter Try.func21, Try.ntmps21
        go_wp2_with (first
          | (go_at_call 52; refine HH.out.mono ?_; rintro e w2 ⟨rfl, rfl⟩; simp only [])
          | go_in)
        go_region
        all_goals go_wp2
        all_goals go_ret
        all_goals exact ⟨rfl, (ext_alloc1 _ _).trans (ext_drew _)⟩
      · have h1b : (wr == d.nb) = false := by simpa using h1
        by_cases h2 : wr = 0
        · subst h2
          rw [show stZ d.nb ⟨0, lo, false⟩ = 0 by simp [stZ, h1]]
          go_enter Try.func21, Try.ntmps21
          go_wp2_with (first
            | (go_at_call 52; refine HH.out.mono ?_; rintro e w2 ⟨rfl, rfl⟩; simp only [])
            | go_in)
          go_region
          all_goals go_wp2
          all_goals go_ret
          all_goals exact ⟨rfl, (ext_alloc1 _ _).trans (ext_drew _)⟩
        · have h2b : (wr == 0) = false := by simpa using h2
          rw [show stZ d.nb ⟨wr, lo, false⟩ = 1 by simp [stZ, h1, h2]]
          go_enter Try.func21, Try.ntmps21
          go_wp2_with (first
            | (go_at_call 52; refine HH.out.mono ?_; rintro e w2 ⟨rfl, rfl⟩; simp only [])
            | go_in)
          go_region
          all_goals go_wp2
          all_goals go_ret
          all_goals exact ⟨rfl, (ext_alloc1 _ _).trans (ext_drew _)⟩
end Go.Proofs.Ytifemhfpcichfaa
