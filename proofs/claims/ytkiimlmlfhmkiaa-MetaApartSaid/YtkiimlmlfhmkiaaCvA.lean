import Derived.Test.YtkiimlmlfhmkiaaAvL3
import Derived.Test.YtkiimlmlfhmkiaaProg
import Derived.KernelRfl

set_option maxRecDepth 100000
namespace Go.Proofs.Ytkiimlmlfhmkiaa
open Go.Av
/-- bilander/varnum.Put -/
def ac50 : AC :=
 (.seq
  (.reg [⟨(some 2), none, .mv (.c .nils)⟩])
  (.seq
   (.reg [⟨(some 3), none, .mv (.t 0)⟩,
     ⟨(some 4), none, .call 87 [(.t 3)]⟩,
     ⟨(some 5), none, .call 86 [(.t 4)]⟩,
     ⟨(some 2), none, .take 5⟩])
   .ret))
def ar50 : List AR := [.t 2]
theorem comp50 : Try.f50.body.bind (comp Try.prog 6) = some ac50 := by kernel_rfl
theorem cres50 : compRes Try.prog Try.f50.results.toList = some ar50 := by kernel_rfl
/-- bilander/varnum.Text -/
def ac52 : AC :=
 (.seq
  (.reg [⟨(some 2), none, .mv (.c .nils)⟩])
  (.seq
   (.reg [⟨(some 3), none, .mv (.t 0)⟩,
     ⟨(some 4), none, .len true (.t 3)⟩,
     ⟨(some 5), none, .call 50 [(.t 4)]⟩,
     ⟨(some 6), none, .mv (.t 0)⟩,
     ⟨(some 7), none, .appS 5 (.t 6)⟩,
     ⟨(some 2), none, .take 7⟩])
   .ret))
def ar52 : List AR := [.t 2]
theorem comp52 : Try.f52.body.bind (comp Try.prog 8) = some ac52 := by kernel_rfl
theorem cres52 : compRes Try.prog Try.f52.results.toList = some ar52 := by kernel_rfl
/-- bilander/bilanderref01.Put -/
def ac55 : AC :=
 (.seq
  (.reg [⟨(some 2), none, .mv (.c .nils)⟩])
  (.seq
   (.reg [⟨(some 3), none, .mv (.t 0)⟩,
     ⟨(some 4), none, .call 90 [(.t 3)]⟩,
     ⟨(some 5), none, .call 89 [(.t 4)]⟩,
     ⟨(some 2), none, .take 5⟩])
   .ret))
def ar55 : List AR := [.t 2]
theorem comp55 : Try.f55.body.bind (comp Try.prog 6) = some ac55 := by kernel_rfl
theorem cres55 : compRes Try.prog Try.f55.results.toList = some ar55 := by kernel_rfl
/-- bilander/bilanderref01.Text -/
def ac56 : AC :=
 (.seq
  (.reg [⟨(some 2), none, .mv (.c .nils)⟩])
  (.seq
   (.reg [⟨(some 3), none, .mv (.t 0)⟩,
     ⟨(some 4), none, .len true (.t 3)⟩,
     ⟨(some 5), none, .call 55 [(.t 4)]⟩,
     ⟨(some 6), none, .mv (.t 0)⟩,
     ⟨(some 7), none, .appS 5 (.t 6)⟩,
     ⟨(some 2), none, .take 7⟩])
   .ret))
def ar56 : List AR := [.t 2]
theorem comp56 : Try.f56.body.bind (comp Try.prog 8) = some ac56 := by kernel_rfl
theorem cres56 : compRes Try.prog Try.f56.results.toList = some ar56 := by kernel_rfl
/-- bilander/varnum.New -/
def ac59 : AC :=
 (.seq
  (.reg [⟨(some 2), none, .mv (.c .nilp)⟩])
  (.seq
   (.reg [⟨(some 3), none, .mv (.t 0)⟩,
     ⟨(some 4), none, .call 91 [(.t 3)]⟩,
     ⟨(some 5), none, .build [.nils, (.int .i64 0)] [(0, 1, (.t 4))]⟩,
     ⟨(some 6), none, .box 2 (.t 5)⟩,
     ⟨(some 2), none, .take 6⟩])
   .ret))
def ar59 : List AR := [.t 2]
theorem comp59 : Try.f59.body.bind (comp Try.prog 7) = some ac59 := by kernel_rfl
theorem cres59 : compRes Try.prog Try.f59.results.toList = some ar59 := by kernel_rfl
/-- (*bilander/varnum.Reader).Fixed -/
def ac60 : AC :=
 (.seq
  (.reg [⟨(some 4), none, .mv (.c (.int .u64 0))⟩])
  (.seq
   (.seq
    (.reg [⟨(some 5), none, .mv (.t 0)⟩,
      ⟨(some 6), none, .callE 67 (.t 5) []⟩,
      ⟨(some 7), none, .bin .neq (.t 6) (.c (.int .i64 0))⟩])
    (.cond (.t 7)
     (.seq
      (.reg [⟨(some 4), none, .mv (.c (.int .u64 0))⟩])
      .ret)
     .skip))
   (.seq
    (.reg [⟨(some 8), none, .mv (.t 0)⟩,
      ⟨(some 9), none, .mv (.t 1)⟩,
      ⟨(some 10), none, .call 94 [(.t 9)]⟩,
      ⟨(some 11), none, .callE 93 (.t 8) [(.t 10)]⟩,
      ⟨(some 12), none, .call 92 [(.t 11)]⟩,
      ⟨(some 4), none, .take 12⟩])
    .ret)))
def ar60 : List AR := [.t 4]
theorem comp60 : Try.f60.body.bind (comp Try.prog 13) = some ac60 := by kernel_rfl
theorem cres60 : compRes Try.prog Try.f60.results.toList = some ar60 := by kernel_rfl
/-- (*bilander/varnum.Reader).Num -/
def ac62 : AC :=
 (.seq
  (.reg [⟨(some 2), none, .mv (.c (.int .i64 0))⟩])
  (.seq
   (.seq
    (.reg [⟨(some 6), none, .mv (.t 0)⟩,
      ⟨(some 7), none, .callE 67 (.t 6) []⟩,
      ⟨(some 8), none, .bin .neq (.t 7) (.c (.int .i64 0))⟩])
    (.cond (.t 8)
     (.seq
      (.reg [⟨(some 2), none, .mv (.c (.int .i64 0))⟩])
      .ret)
     .skip))
   (.seq
    (.reg [⟨(some 10), none, .mv (.t 0)⟩,
      ⟨(some 11), none, .nilc (.t 10)⟩,
      ⟨(some 12), none, .faddr (.t 11) 0⟩,
      ⟨(some 13), none, .load none (.t 12)⟩,
      ⟨(some 14), none, .call 95 [(.t 13)]⟩,
      ⟨(some 9), none, .take 14⟩,
      ⟨(some 15), none, .ext 9 0⟩,
      ⟨(some 16), none, .ext 9 1⟩,
      ⟨(some 17), none, .ext 9 2⟩,
      ⟨(some 3), none, .take 15⟩,
      ⟨(some 4), none, .take 16⟩,
      ⟨(some 5), none, .take 17⟩])
    (.seq
     (.reg [⟨(some 18), none, .mv (.t 0)⟩,
       ⟨(some 19), none, .mv (.t 0)⟩,
       ⟨(some 20), none, .mv (.t 0)⟩,
       ⟨(some 21), none, .nilc (.t 20)⟩,
       ⟨(some 22), none, .faddr (.t 21) 0⟩,
       ⟨(some 23), none, .load none (.t 22)⟩,
       ⟨(some 24), none, .mv (.t 4)⟩,
       ⟨(some 25), none, .slc false 1 (.t 23) (some (.t 24)) none⟩,
       ⟨(some 26), none, .mv (.t 5)⟩,
       ⟨(some 27), none, .nilc (.t 18)⟩,
       ⟨(some 28), none, .faddr (.t 27) 0⟩,
       ⟨none, none, .store 1 (.t 28) (.t 25)⟩,
       ⟨(some 29), none, .nilc (.t 19)⟩,
       ⟨(some 30), none, .faddr (.t 29) 1⟩,
       ⟨none, none, .store 1 (.t 30) (.t 26)⟩])
     (.seq
      (.reg [⟨(some 31), none, .take 3⟩,
        ⟨(some 2), none, .take 31⟩])
      .ret)))))
def ar62 : List AR := [.t 2]
theorem comp62 : Try.f62.body.bind (comp Try.prog 32) = some ac62 := by kernel_rfl
theorem cres62 : compRes Try.prog Try.f62.results.toList = some ar62 := by kernel_rfl
/-- (*bilander/varnum.Reader).Text -/
def ac63 : AC :=
 (.seq
  (.reg [⟨(some 4), none, .mv (.c (.str (ByteArray.mk #[])))⟩])
  (.seq
   (.reg [⟨(some 6), none, .mv (.t 0)⟩,
     ⟨(some 7), none, .callE 62 (.t 6) []⟩,
     ⟨(some 5), none, .take 7⟩])
   (.seq
    (.seq
     (.reg [⟨(some 8), none, .mv (.t 0)⟩,
       ⟨(some 9), none, .callE 67 (.t 8) []⟩,
       ⟨(some 10), none, .bin .neq (.t 9) (.c (.int .i64 0))⟩])
     (.cond (.t 10)
      (.seq
       (.reg [⟨(some 4), none, .mv (.c (.str (ByteArray.mk #[])))⟩])
       .ret)
      .skip))
    (.seq
     (.seq
      (.reg [⟨(some 11), none, .mv (.t 5)⟩,
        ⟨(some 12), none, .bin .lss (.t 11) (.c (.int .i64 0))⟩,
        ⟨(some 13), none, .take 12⟩,
        ⟨(some 14), (some (13, false)), .mv (.t 5)⟩,
        ⟨(some 15), (some (13, false)), .mv (.t 1)⟩,
        ⟨(some 16), (some (13, false)), .minmax true (.c (.int .i64 0)) (.t 15)⟩,
        ⟨(some 17), (some (13, false)), .bin .gtr (.t 14) (.t 16)⟩,
        ⟨(some 18), none, .pick (.t 13) (.c (.bool true)) (.t 17)⟩])
      (.cond (.t 18)
       (.seq
        (.reg [⟨(some 19), none, .mv (.t 0)⟩,
          ⟨(some 20), none, .nilc (.t 19)⟩,
          ⟨(some 21), none, .faddr (.t 20) 1⟩,
          ⟨none, none, .store 1 (.t 21) (.c (.int .i64 5))⟩])
        (.seq
         (.reg [⟨(some 4), none, .mv (.c (.str (ByteArray.mk #[])))⟩])
         .ret))
       .skip))
     (.seq
      (.reg [⟨(some 22), none, .mv (.t 0)⟩,
        ⟨(some 23), none, .mv (.t 5)⟩,
        ⟨(some 24), none, .callE 93 (.t 22) [(.t 23)]⟩,
        ⟨(some 25), none, .b2s (.t 24)⟩,
        ⟨(some 4), none, .take 25⟩])
      .ret)))))
def ar63 : List AR := [.t 4]
theorem comp63 : Try.f63.body.bind (comp Try.prog 26) = some ac63 := by kernel_rfl
theorem cres63 : compRes Try.prog Try.f63.results.toList = some ar63 := by kernel_rfl
/-- (*bilander/varnum.Reader).Done -/
def ac64 : AC :=
 (.seq
  (.reg [⟨(some 2), none, .mv (.c (.int .i64 0))⟩])
  (.seq
   (.block 0
    (.seq
     (.reg [⟨(some 4), none, .mv (.t 0)⟩,
       ⟨(some 5), none, .callE 67 (.t 4) []⟩,
       ⟨(some 6), none, .bin .neq (.t 5) (.c (.int .i64 0))⟩,
       ⟨(some 3), none, .take 6⟩])
     (.cond (.t 3)
      (.seq
       (.reg [⟨(some 7), none, .mv (.t 0)⟩,
         ⟨(some 8), none, .callE 67 (.t 7) []⟩,
         ⟨(some 2), none, .take 8⟩])
       .ret)
      (.seq
       (.reg [⟨(some 10), none, .mv (.t 0)⟩,
         ⟨(some 11), none, .nilc (.t 10)⟩,
         ⟨(some 12), none, .faddr (.t 11) 0⟩,
         ⟨(some 13), none, .load none (.t 12)⟩,
         ⟨(some 14), none, .len false (.t 13)⟩,
         ⟨(some 15), none, .bin .gtr (.t 14) (.c (.int .i64 0))⟩,
         ⟨(some 9), none, .take 15⟩])
       (.cond (.t 9)
        (.seq
         (.reg [⟨(some 2), none, .mv (.c (.int .i64 4))⟩])
         .ret)
        .skip)))))
   (.seq
    (.reg [⟨(some 2), none, .mv (.c (.int .i64 0))⟩])
    .ret)))
def ar64 : List AR := [.t 2]
theorem comp64 : Try.f64.body.bind (comp Try.prog 16) = some ac64 := by kernel_rfl
theorem cres64 : compRes Try.prog Try.f64.results.toList = some ar64 := by kernel_rfl
/-- bytes.Equal -/
def ac65 : AC :=
 (.seq
  (.reg [⟨(some 4), none, .mv (.c (.bool false))⟩])
  (.seq
   (.reg [⟨(some 5), none, .mv (.t 0)⟩,
     ⟨(some 6), none, .b2s (.t 5)⟩,
     ⟨(some 7), none, .mv (.t 1)⟩,
     ⟨(some 8), none, .b2s (.t 7)⟩,
     ⟨(some 9), none, .bin .eql (.t 6) (.t 8)⟩,
     ⟨(some 4), none, .take 9⟩])
   .ret))
def ar65 : List AR := [.t 4]
theorem comp65 : Try.f65.body.bind (comp Try.prog 10) = some ac65 := by kernel_rfl
theorem cres65 : compRes Try.prog Try.f65.results.toList = some ar65 := by kernel_rfl
/-- (*bilander/varnum.Reader).Err -/
def ac67 : AC :=
 (.seq
  (.reg [⟨(some 2), none, .mv (.c (.int .i64 0))⟩])
  (.seq
   (.seq
    (.reg [⟨(some 3), none, .mv (.t 0)⟩,
      ⟨(some 4), none, .eqn false false (.t 3)⟩])
    (.cond (.t 4)
     (.seq
      (.reg [⟨(some 2), none, .mv (.c (.int .i64 1))⟩])
      .ret)
     .skip))
   (.seq
    (.reg [⟨(some 5), none, .mv (.t 0)⟩,
      ⟨(some 6), none, .nilc (.t 5)⟩,
      ⟨(some 7), none, .faddr (.t 6) 1⟩,
      ⟨(some 8), none, .load none (.t 7)⟩,
      ⟨(some 2), none, .take 8⟩])
    .ret)))
def ar67 : List AR := [.t 2]
theorem comp67 : Try.f67.body.bind (comp Try.prog 9) = some ac67 := by kernel_rfl
theorem cres67 : compRes Try.prog Try.f67.results.toList = some ar67 := by kernel_rfl
/-- (bilander/bilanderref01.Reader).Num -/
def ac68 : AC :=
 (.seq
  (.reg [⟨(some 1), none, .box 2 (.t 0)⟩,
    ⟨(some 2), none, .alloc [.nils, (.int .i64 0)]⟩,
    ⟨(some 3), none, .mv (.c (.int .i64 0))⟩])
  (.seq
   (.seq
    (.reg [⟨(some 7), none, .faddr (.t 1) 1⟩,
      ⟨(some 8), none, .load none (.t 7)⟩,
      ⟨(some 9), none, .bin .neq (.t 8) (.c (.int .i64 0))⟩])
    (.cond (.t 9)
     (.seq
      (.reg [⟨(some 10), none, .load (some 2) (.t 1)⟩,
        ⟨none, none, .store 2 (.t 2) (.t 10)⟩,
        ⟨(some 3), none, .mv (.c (.int .i64 0))⟩])
      .ret)
     .skip))
   (.seq
    (.reg [⟨(some 12), none, .faddr (.t 1) 0⟩,
      ⟨(some 13), none, .load none (.t 12)⟩,
      ⟨(some 14), none, .call 97 [(.t 13)]⟩,
      ⟨(some 11), none, .take 14⟩,
      ⟨(some 15), none, .ext 11 0⟩,
      ⟨(some 16), none, .ext 11 1⟩,
      ⟨(some 17), none, .ext 11 2⟩,
      ⟨(some 4), none, .take 15⟩,
      ⟨(some 5), none, .take 16⟩,
      ⟨(some 6), none, .take 17⟩])
    (.seq
     (.seq
      (.reg [⟨(some 18), none, .mv (.t 6)⟩,
        ⟨(some 19), none, .bin .neq (.t 18) (.c (.int .i64 0))⟩])
      (.cond (.t 19)
       (.seq
        (.reg [⟨(some 20), none, .faddr (.t 1) 0⟩,
          ⟨(some 21), none, .load none (.t 20)⟩,
          ⟨(some 22), none, .mv (.t 6)⟩,
          ⟨(some 23), none, .build [.nils, (.int .i64 0)] [(0, 1, (.t 21)), (1, 1, (.t 22))]⟩,
          ⟨none, none, .store 2 (.t 2) (.t 23)⟩,
          ⟨(some 3), none, .mv (.c (.int .i64 0))⟩])
        .ret)
       .skip))
     (.seq
      (.reg [⟨(some 24), none, .faddr (.t 1) 0⟩,
        ⟨(some 25), none, .load none (.t 24)⟩,
        ⟨(some 26), none, .mv (.t 5)⟩,
        ⟨(some 27), none, .slc false 1 (.t 25) (some (.t 26)) none⟩,
        ⟨(some 28), none, .build [.nils, (.int .i64 0)] [(0, 1, (.t 27)), (1, 1, (.c (.int .i64 0)))]⟩,
        ⟨(some 29), none, .take 4⟩,
        ⟨none, none, .store 2 (.t 2) (.t 28)⟩,
        ⟨(some 3), none, .take 29⟩])
      .ret)))))
def ar68 : List AR := [.c 2 (some 2), .t 3]
theorem comp68 : Try.f68.body.bind (comp Try.prog 30) = some ac68 := by kernel_rfl
theorem cres68 : compRes Try.prog Try.f68.results.toList = some ar68 := by kernel_rfl
/-- (bilander/bilanderref01.Reader).Text -/
def ac69 : AC :=
 (.seq
  (.reg [⟨(some 2), none, .box 2 (.t 0)⟩,
    ⟨(some 4), none, .alloc [.nils, (.int .i64 0)]⟩,
    ⟨(some 5), none, .mv (.c (.str (ByteArray.mk #[])))⟩])
  (.seq
   (.reg [⟨(some 8), none, .load (some 2) (.t 2)⟩,
     ⟨(some 9), none, .call 68 [(.t 8)]⟩,
     ⟨(some 7), none, .take 9⟩,
     ⟨(some 10), none, .extS 7 0⟩,
     ⟨(some 11), none, .ext 7 1⟩,
     ⟨none, none, .store 2 (.t 2) (.t 10)⟩,
     ⟨(some 6), none, .take 11⟩])
   (.seq
    (.block 0
     (.seq
      (.reg [⟨(some 13), none, .faddr (.t 2) 1⟩,
        ⟨(some 14), none, .load none (.t 13)⟩,
        ⟨(some 15), none, .bin .neq (.t 14) (.c (.int .i64 0))⟩,
        ⟨(some 12), none, .take 15⟩])
      (.cond (.t 12)
       (.seq
        (.reg [⟨(some 16), none, .load (some 2) (.t 2)⟩,
          ⟨none, none, .store 2 (.t 4) (.t 16)⟩,
          ⟨(some 5), none, .mv (.c (.str (ByteArray.mk #[])))⟩])
        .ret)
       (.seq
        (.reg [⟨(some 18), none, .mv (.t 6)⟩,
          ⟨(some 19), none, .bin .lss (.t 18) (.c (.int .i64 0))⟩,
          ⟨(some 20), none, .take 19⟩,
          ⟨(some 21), (some (20, false)), .mv (.t 6)⟩,
          ⟨(some 22), (some (20, false)), .mv (.t 1)⟩,
          ⟨(some 23), (some (20, false)), .minmax true (.c (.int .i64 0)) (.t 22)⟩,
          ⟨(some 24), (some (20, false)), .bin .gtr (.t 21) (.t 23)⟩,
          ⟨(some 25), none, .pick (.t 20) (.c (.bool true)) (.t 24)⟩,
          ⟨(some 17), none, .take 25⟩])
        (.cond (.t 17)
         (.seq
          (.reg [⟨(some 26), none, .faddr (.t 2) 0⟩,
            ⟨(some 27), none, .load none (.t 26)⟩,
            ⟨(some 28), none, .build [.nils, (.int .i64 0)] [(0, 1, (.t 27)), (1, 1, (.c (.int .i64 5)))]⟩,
            ⟨none, none, .store 2 (.t 4) (.t 28)⟩,
            ⟨(some 5), none, .mv (.c (.str (ByteArray.mk #[])))⟩])
          .ret)
         (.seq
          (.reg [⟨(some 30), none, .mv (.t 6)⟩,
            ⟨(some 31), none, .faddr (.t 2) 0⟩,
            ⟨(some 32), none, .load none (.t 31)⟩,
            ⟨(some 33), none, .len false (.t 32)⟩,
            ⟨(some 34), none, .bin .gtr (.t 30) (.t 33)⟩,
            ⟨(some 29), none, .take 34⟩])
          (.cond (.t 29)
           (.seq
            (.reg [⟨(some 35), none, .faddr (.t 2) 0⟩,
              ⟨(some 36), none, .load none (.t 35)⟩,
              ⟨(some 37), none, .build [.nils, (.int .i64 0)] [(0, 1, (.t 36)), (1, 1, (.c (.int .i64 3)))]⟩,
              ⟨none, none, .store 2 (.t 4) (.t 37)⟩,
              ⟨(some 5), none, .mv (.c (.str (ByteArray.mk #[])))⟩])
            .ret)
           .skip)))))))
    (.seq
     (.dreg [(38, 2), (2, 2), (43, 2), (4, 4)] [⟨(some 38), none, .faddr (.t 2) 0⟩,
       ⟨(some 39), none, .load none (.t 38)⟩,
       ⟨(some 40), none, .mv (.t 6)⟩,
       ⟨(some 41), none, .slc false 1 (.t 39) (some (.t 40)) none⟩,
       ⟨(some 42), none, .build [.nils, (.int .i64 0)] [(0, 1, (.t 41)), (1, 1, (.c (.int .i64 0)))]⟩,
       ⟨(some 43), none, .faddr (.t 2) 0⟩,
       ⟨(some 44), none, .load none (.t 43)⟩,
       ⟨(some 45), none, .mv (.t 6)⟩,
       ⟨(some 46), none, .slc false 1 (.t 44) none (some (.t 45))⟩,
       ⟨(some 47), none, .b2s (.t 46)⟩,
       ⟨none, none, .store 2 (.t 4) (.t 42)⟩,
       ⟨(some 5), none, .take 47⟩])
     .ret))))
def ar69 : List AR := [.c 4 (some 2), .t 5]
theorem comp69 : Try.f69.body.bind (comp Try.prog 48) = some ac69 := by kernel_rfl
theorem cres69 : compRes Try.prog Try.f69.results.toList = some ar69 := by kernel_rfl
/-- slices.Equal[[]byte,byte] -/
def ac78 : AC :=
 (.seq
  (.reg [⟨(some 4), none, .mv (.c (.bool false))⟩])
  (.seq
   (.seq
    (.reg [⟨(some 6), none, .mv (.t 0)⟩,
      ⟨(some 7), none, .len false (.t 6)⟩,
      ⟨(some 8), none, .mv (.t 1)⟩,
      ⟨(some 9), none, .len false (.t 8)⟩,
      ⟨(some 10), none, .bin .neq (.t 7) (.t 9)⟩])
    (.cond (.t 10)
     (.seq
      (.reg [⟨(some 4), none, .mv (.c (.bool false))⟩])
      .ret)
     .skip))
   (.seq
    (.seq
     (.reg [⟨(some 11), none, .mv (.t 0)⟩,
       ⟨(some 12), none, .len false (.t 11)⟩,
       ⟨(some 13), none, .mv (.c (.int .i64 0))⟩])
     (.block 0
      (.loop
       (.seq
        (.reg [⟨(some 14), none, .bin .lss (.t 13) (.t 12)⟩])
        (.seq
         (.cond (.t 14)
          .skip
          (.exit 0))
         (.seq
          (.block 1
           (.seq
            (.reg [⟨(some 15), none, .take 13⟩,
              ⟨(some 5), none, .take 15⟩])
            (.seq
             (.dreg [] [⟨(some 16), none, .mv (.t 0)⟩,
               ⟨(some 17), none, .mv (.t 5)⟩,
               ⟨(some 18), none, .iaddr 1 (.t 16) (.t 17)⟩,
               ⟨(some 19), none, .load none (.t 18)⟩,
               ⟨(some 20), none, .mv (.t 1)⟩,
               ⟨(some 21), none, .mv (.t 5)⟩,
               ⟨(some 22), none, .iaddr 1 (.t 20) (.t 21)⟩,
               ⟨(some 23), none, .load none (.t 22)⟩,
               ⟨(some 24), none, .bin .neq (.t 19) (.t 23)⟩])
             (.cond (.t 24)
              (.seq
               (.reg [⟨(some 4), none, .mv (.c (.bool false))⟩])
               .ret)
              .skip))))
          (.reg [⟨(some 25), none, .bin .add (.t 13) (.c (.int .i64 1))⟩,
            ⟨(some 13), none, .take 25⟩])))))))
    (.seq
     (.reg [⟨(some 4), none, .mv (.c (.bool true))⟩])
     .ret))))
def ar78 : List AR := [.t 4]
theorem comp78 : Try.f78.body.bind (comp Try.prog 26) = some ac78 := by kernel_rfl
theorem cres78 : compRes Try.prog Try.f78.results.toList = some ar78 := by kernel_rfl
/-- bilander/varnum.lay -/
def ac86 : AC :=
 (.seq
  (.reg [⟨(some 2), none, .mv (.c .nils)⟩])
  (.seq
   (.reg [⟨(some 3), none, .mv (.c .nils)⟩])
   (.seq
    (.block 0
     (.loop
      (.seq
       (.seq
        (.reg [⟨(some 4), none, .mv (.t 0)⟩,
          ⟨(some 5), none, .bin .gtr (.t 4) (.c (.int .u64 127))⟩])
        (.cond (.t 5)
         .skip
         (.exit 0)))
       (.seq
        (.block 1
         (.reg [⟨(some 8), none, .take 3⟩,
           ⟨(some 9), none, .mv (.t 0)⟩,
           ⟨(some 10), none, .conv .u8 (.t 9)⟩,
           ⟨(some 11), none, .bin .or (.t 10) (.c (.int .u8 128))⟩,
           ⟨(some 12), none, .bsl 1 1 [(.int .u8 0)] [(0, (.t 11))]⟩,
           ⟨(some 13), none, .app 1 1 8 (.t 12)⟩,
           ⟨(some 3), none, .take 13⟩]))
        (.reg [⟨(some 6), none, .take 0⟩,
          ⟨(some 7), none, .bin .shr (.t 6) (.c (.int .u64 7))⟩,
          ⟨(some 0), none, .take 7⟩])))))
    (.seq
     (.reg [⟨(some 14), none, .take 3⟩,
       ⟨(some 15), none, .mv (.t 0)⟩,
       ⟨(some 16), none, .conv .u8 (.t 15)⟩,
       ⟨(some 17), none, .bsl 1 1 [(.int .u8 0)] [(0, (.t 16))]⟩,
       ⟨(some 18), none, .app 1 1 14 (.t 17)⟩,
       ⟨(some 2), none, .take 18⟩])
     .ret))))
def ar86 : List AR := [.t 2]
theorem comp86 : Try.f86.body.bind (comp Try.prog 19) = some ac86 := by kernel_rfl
theorem cres86 : compRes Try.prog Try.f86.results.toList = some ar86 := by kernel_rfl
/-- bilander/varnum.Zigzag -/
def ac87 : AC :=
 (.seq
  (.reg [⟨(some 2), none, .mv (.c (.int .u64 0))⟩])
  (.seq
   (.reg [⟨(some 3), none, .mv (.t 0)⟩,
     ⟨(some 4), none, .conv .u64 (.t 3)⟩,
     ⟨(some 5), none, .bin .shl (.t 4) (.c (.int .u64 1))⟩,
     ⟨(some 6), none, .mv (.t 0)⟩,
     ⟨(some 7), none, .bin .shr (.t 6) (.c (.int .u64 63))⟩,
     ⟨(some 8), none, .conv .u64 (.t 7)⟩,
     ⟨(some 9), none, .bin .xor (.t 5) (.t 8)⟩,
     ⟨(some 2), none, .take 9⟩])
   .ret))
def ar87 : List AR := [.t 2]
theorem comp87 : Try.f87.body.bind (comp Try.prog 10) = some ac87 := by kernel_rfl
theorem cres87 : compRes Try.prog Try.f87.results.toList = some ar87 := by kernel_rfl
/-- bilander/bilanderref01.bytes -/
def ac89 : AC :=
 (.seq
  (.reg [⟨(some 2), none, .mv (.c .nils)⟩])
  (.seq
   (.reg [⟨(some 3), none, .mv (.c .nils)⟩])
   (.seq
    (.block 0
     (.loop
      (.seq
       (.seq
        (.reg [⟨(some 4), none, .mv (.t 0)⟩,
          ⟨(some 5), none, .bin .geq (.t 4) (.c (.int .u64 128))⟩])
        (.cond (.t 5)
         .skip
         (.exit 0)))
       (.block 1
        (.seq
         (.reg [⟨(some 6), none, .take 3⟩,
           ⟨(some 7), none, .mv (.t 0)⟩,
           ⟨(some 8), none, .bin .rem (.t 7) (.c (.int .u64 128))⟩,
           ⟨(some 9), none, .conv .u8 (.t 8)⟩,
           ⟨(some 10), none, .bin .add (.t 9) (.c (.int .u8 128))⟩,
           ⟨(some 11), none, .bsl 1 1 [(.int .u8 0)] [(0, (.t 10))]⟩,
           ⟨(some 12), none, .app 1 1 6 (.t 11)⟩,
           ⟨(some 3), none, .take 12⟩])
         (.reg [⟨(some 13), none, .take 0⟩,
           ⟨(some 14), none, .bin .quo (.t 13) (.c (.int .u64 128))⟩,
           ⟨(some 0), none, .take 14⟩]))))))
    (.seq
     (.reg [⟨(some 15), none, .take 3⟩,
       ⟨(some 16), none, .mv (.t 0)⟩,
       ⟨(some 17), none, .conv .u8 (.t 16)⟩,
       ⟨(some 18), none, .bsl 1 1 [(.int .u8 0)] [(0, (.t 17))]⟩,
       ⟨(some 19), none, .app 1 1 15 (.t 18)⟩,
       ⟨(some 2), none, .take 19⟩])
     .ret))))
def ar89 : List AR := [.t 2]
theorem comp89 : Try.f89.body.bind (comp Try.prog 20) = some ac89 := by kernel_rfl
theorem cres89 : compRes Try.prog Try.f89.results.toList = some ar89 := by kernel_rfl
/-- bilander/bilanderref01.Zigzag -/
def ac90 : AC :=
 (.seq
  (.reg [⟨(some 2), none, .mv (.c (.int .u64 0))⟩])
  (.seq
   (.seq
    (.reg [⟨(some 3), none, .mv (.t 0)⟩,
      ⟨(some 4), none, .bin .geq (.t 3) (.c (.int .i64 0))⟩])
    (.cond (.t 4)
     (.seq
      (.reg [⟨(some 5), none, .mv (.t 0)⟩,
        ⟨(some 6), none, .conv .u64 (.t 5)⟩,
        ⟨(some 7), none, .bin .mul (.c (.int .u64 2)) (.t 6)⟩,
        ⟨(some 2), none, .take 7⟩])
      .ret)
     .skip))
   (.seq
    (.reg [⟨(some 8), none, .mv (.t 0)⟩,
      ⟨(some 9), none, .bin .add (.t 8) (.c (.int .i64 1))⟩,
      ⟨(some 10), none, .una .neg (.t 9)⟩,
      ⟨(some 11), none, .conv .u64 (.t 10)⟩,
      ⟨(some 12), none, .bin .mul (.c (.int .u64 2)) (.t 11)⟩,
      ⟨(some 13), none, .bin .add (.t 12) (.c (.int .u64 1))⟩,
      ⟨(some 2), none, .take 13⟩])
    .ret)))
def ar90 : List AR := [.t 2]
theorem comp90 : Try.f90.body.bind (comp Try.prog 14) = some ac90 := by kernel_rfl
theorem cres90 : compRes Try.prog Try.f90.results.toList = some ar90 := by kernel_rfl
/-- bytes.Clone -/
def ac91 : AC :=
 (.seq
  (.reg [⟨(some 2), none, .mv (.c .nils)⟩])
  (.seq
   (.seq
    (.reg [⟨(some 3), none, .mv (.t 0)⟩,
      ⟨(some 4), none, .eqn true false (.t 3)⟩])
    (.cond (.t 4)
     (.seq
      (.reg [⟨(some 2), none, .mv (.c .nils)⟩])
      .ret)
     .skip))
   (.seq
    (.reg [⟨(some 5), none, .bsl 1 0 [(.int .u8 0)] []⟩,
      ⟨(some 6), none, .mv (.t 0)⟩,
      ⟨(some 7), none, .app 1 1 5 (.t 6)⟩,
      ⟨(some 2), none, .take 7⟩])
    .ret)))
def ar91 : List AR := [.t 2]
theorem comp91 : Try.f91.body.bind (comp Try.prog 8) = some ac91 := by kernel_rfl
theorem cres91 : compRes Try.prog Try.f91.results.toList = some ar91 := by kernel_rfl
/-- bilander/varnum.Unfixed -/
def ac92 : AC :=
 (.seq
  (.reg [⟨(some 2), none, .mv (.c (.int .u64 0))⟩])
  (.seq
   (.reg [⟨(some 3), none, .mv (.c (.int .u64 0))⟩])
   (.seq
    (.seq
     (.reg [⟨(some 6), none, .mv (.t 0)⟩,
       ⟨(some 7), none, .len false (.t 6)⟩,
       ⟨(some 8), none, .mv (.c (.int .i64 0))⟩])
     (.block 0
      (.loop
       (.seq
        (.reg [⟨(some 9), none, .bin .lss (.t 8) (.t 7)⟩])
        (.seq
         (.cond (.t 9)
          .skip
          (.exit 0))
         (.seq
          (.block 1
           (.seq
            (.reg [⟨(some 10), none, .iaddr 1 (.t 6) (.t 8)⟩,
              ⟨(some 11), none, .load none (.t 10)⟩,
              ⟨(some 5), none, .take 11⟩])
            (.reg [⟨(some 12), none, .take 3⟩,
              ⟨(some 13), none, .bin .shl (.t 12) (.c (.int .u64 8))⟩,
              ⟨(some 14), none, .mv (.t 5)⟩,
              ⟨(some 15), none, .conv .u64 (.t 14)⟩,
              ⟨(some 16), none, .bin .or (.t 13) (.t 15)⟩,
              ⟨(some 3), none, .take 16⟩])))
          (.reg [⟨(some 17), none, .bin .add (.t 8) (.c (.int .i64 1))⟩,
            ⟨(some 8), none, .take 17⟩])))))))
    (.seq
     (.reg [⟨(some 18), none, .take 3⟩,
       ⟨(some 2), none, .take 18⟩])
     .ret))))
def ar92 : List AR := [.t 2]
theorem comp92 : Try.f92.body.bind (comp Try.prog 19) = some ac92 := by kernel_rfl
theorem cres92 : compRes Try.prog Try.f92.results.toList = some ar92 := by kernel_rfl
/-- (*bilander/varnum.Reader).take -/
def ac93 : AC :=
 (.seq
  (.reg [⟨(some 4), none, .mv (.c .nils)⟩])
  (.seq
   (.seq
    (.reg [⟨(some 6), none, .mv (.t 0)⟩,
      ⟨(some 7), none, .nilc (.t 6)⟩,
      ⟨(some 8), none, .faddr (.t 7) 0⟩,
      ⟨(some 9), none, .load none (.t 8)⟩,
      ⟨(some 10), none, .len false (.t 9)⟩,
      ⟨(some 11), none, .mv (.t 1)⟩,
      ⟨(some 12), none, .bin .lss (.t 10) (.t 11)⟩])
    (.cond (.t 12)
     (.seq
      (.reg [⟨(some 13), none, .mv (.t 0)⟩,
        ⟨(some 14), none, .nilc (.t 13)⟩,
        ⟨(some 15), none, .faddr (.t 14) 1⟩,
        ⟨none, none, .store 1 (.t 15) (.c (.int .i64 3))⟩])
      (.seq
       (.reg [⟨(some 4), none, .mv (.c .nils)⟩])
       .ret))
     .skip))
   (.seq
    (.reg [⟨(some 16), none, .mv (.t 0)⟩,
      ⟨(some 17), none, .nilc (.t 16)⟩,
      ⟨(some 18), none, .faddr (.t 17) 0⟩,
      ⟨(some 19), none, .load none (.t 18)⟩,
      ⟨(some 20), none, .mv (.t 1)⟩,
      ⟨(some 21), none, .slc false 1 (.t 19) none (some (.t 20))⟩,
      ⟨(some 5), none, .take 21⟩])
    (.seq
     (.reg [⟨(some 22), none, .mv (.t 0)⟩,
       ⟨(some 23), none, .mv (.t 0)⟩,
       ⟨(some 24), none, .nilc (.t 23)⟩,
       ⟨(some 25), none, .faddr (.t 24) 0⟩,
       ⟨(some 26), none, .load none (.t 25)⟩,
       ⟨(some 27), none, .mv (.t 1)⟩,
       ⟨(some 28), none, .slc false 1 (.t 26) (some (.t 27)) none⟩,
       ⟨(some 29), none, .nilc (.t 22)⟩,
       ⟨(some 30), none, .faddr (.t 29) 0⟩,
       ⟨none, none, .store 1 (.t 30) (.t 28)⟩])
     (.seq
      (.reg [⟨(some 31), none, .take 5⟩,
        ⟨(some 4), none, .take 31⟩])
      .ret)))))
def ar93 : List AR := [.t 4]
theorem comp93 : Try.f93.body.bind (comp Try.prog 32) = some ac93 := by kernel_rfl
theorem cres93 : compRes Try.prog Try.f93.results.toList = some ar93 := by kernel_rfl
/-- bilander/varnum.wide -/
def ac94 : AC :=
 (.seq
  (.reg [⟨(some 2), none, .mv (.c (.int .i64 0))⟩])
  (.seq
   (.reg [⟨(some 3), none, .mv (.t 0)⟩,
     ⟨(some 4), none, .minmax false (.t 3) (.c (.int .i64 8))⟩,
     ⟨(some 5), none, .minmax true (.c (.int .i64 0)) (.t 4)⟩,
     ⟨(some 2), none, .take 5⟩])
   .ret))
def ar94 : List AR := [.t 2]
theorem comp94 : Try.f94.body.bind (comp Try.prog 6) = some ac94 := by kernel_rfl
theorem cres94 : compRes Try.prog Try.f94.results.toList = some ar94 := by kernel_rfl
/-- bilander/varnum.Get -/
def ac95 : AC :=
 (.seq
  (.reg [⟨(some 2), none, .mv (.c (.int .i64 0))⟩,
    ⟨(some 3), none, .mv (.c (.int .i64 0))⟩,
    ⟨(some 4), none, .mv (.c (.int .i64 0))⟩])
  (.seq
   (.reg [⟨(some 5), none, .mv (.c (.int .u64 0))⟩])
   (.seq
    (.seq
     (.reg [⟨(some 7), none, .mv (.t 0)⟩,
       ⟨(some 8), none, .len false (.t 7)⟩,
       ⟨(some 9), none, .minmax false (.t 8) (.c (.int .i64 10))⟩,
       ⟨(some 10), none, .mv (.c (.int .i64 0))⟩])
     (.block 0
      (.loop
       (.seq
        (.reg [⟨(some 11), none, .bin .lss (.t 10) (.t 9)⟩])
        (.seq
         (.cond (.t 11)
          .skip
          (.exit 0))
         (.seq
          (.block 1
           (.seq
            (.reg [⟨(some 12), none, .take 10⟩,
              ⟨(some 6), none, .take 12⟩])
            (.seq
             (.reg [⟨(some 13), none, .take 5⟩,
               ⟨(some 14), none, .mv (.t 0)⟩,
               ⟨(some 15), none, .mv (.t 6)⟩,
               ⟨(some 16), none, .iaddr 1 (.t 14) (.t 15)⟩,
               ⟨(some 17), none, .load none (.t 16)⟩,
               ⟨(some 18), none, .bin .and (.t 17) (.c (.int .u8 127))⟩,
               ⟨(some 19), none, .conv .u64 (.t 18)⟩,
               ⟨(some 20), none, .mv (.t 6)⟩,
               ⟨(some 21), none, .bin .mul (.c (.int .i64 7)) (.t 20)⟩,
               ⟨(some 22), none, .bin .shl (.t 19) (.t 21)⟩,
               ⟨(some 23), none, .bin .or (.t 13) (.t 22)⟩,
               ⟨(some 5), none, .take 23⟩])
             (.seq
              (.seq
               (.reg [⟨(some 24), none, .mv (.t 0)⟩,
                 ⟨(some 25), none, .mv (.t 6)⟩,
                 ⟨(some 26), none, .iaddr 1 (.t 24) (.t 25)⟩,
                 ⟨(some 27), none, .load none (.t 26)⟩,
                 ⟨(some 28), none, .bin .and (.t 27) (.c (.int .u8 128))⟩,
                 ⟨(some 29), none, .bin .neq (.t 28) (.c (.int .u8 0))⟩])
               (.cond (.t 29)
                (.exit 1)
                .skip))
              (.seq
               (.seq
                (.dreg [] [⟨(some 30), none, .mv (.t 5)⟩,
                  ⟨(some 31), none, .call 86 [(.t 30)]⟩,
                  ⟨(some 32), none, .mv (.t 0)⟩,
                  ⟨(some 33), none, .mv (.t 6)⟩,
                  ⟨(some 34), none, .bin .add (.t 33) (.c (.int .i64 1))⟩,
                  ⟨(some 35), none, .slc false 1 (.t 32) none (some (.t 34))⟩,
                  ⟨(some 36), none, .call 65 [(.t 31), (.t 35)]⟩,
                  ⟨(some 37), none, .una .not (.t 36)⟩])
                (.cond (.t 37)
                 (.seq
                  (.reg [⟨(some 2), none, .mv (.c (.int .i64 0))⟩,
                    ⟨(some 3), none, .mv (.c (.int .i64 0))⟩,
                    ⟨(some 4), none, .mv (.c (.int .i64 4))⟩])
                  .ret)
                 .skip))
               (.seq
                (.reg [⟨(some 38), none, .mv (.t 5)⟩,
                  ⟨(some 39), none, .call 103 [(.t 38)]⟩,
                  ⟨(some 40), none, .mv (.t 6)⟩,
                  ⟨(some 41), none, .bin .add (.t 40) (.c (.int .i64 1))⟩,
                  ⟨(some 2), none, .take 39⟩,
                  ⟨(some 3), none, .take 41⟩,
                  ⟨(some 4), none, .mv (.c (.int .i64 0))⟩])
                .ret))))))
          (.reg [⟨(some 42), none, .bin .add (.t 10) (.c (.int .i64 1))⟩,
            ⟨(some 10), none, .take 42⟩])))))))
    (.seq
     (.seq
      (.reg [⟨(some 43), none, .mv (.t 0)⟩,
        ⟨(some 44), none, .len false (.t 43)⟩,
        ⟨(some 45), none, .bin .lss (.t 44) (.c (.int .i64 10))⟩])
      (.cond (.t 45)
       (.seq
        (.reg [⟨(some 2), none, .mv (.c (.int .i64 0))⟩,
          ⟨(some 3), none, .mv (.c (.int .i64 0))⟩,
          ⟨(some 4), none, .mv (.c (.int .i64 3))⟩])
        .ret)
       .skip))
     (.seq
      (.reg [⟨(some 2), none, .mv (.c (.int .i64 0))⟩,
        ⟨(some 3), none, .mv (.c (.int .i64 0))⟩,
        ⟨(some 4), none, .mv (.c (.int .i64 4))⟩])
      .ret)))))
def ar95 : List AR := [.t 2, .t 3, .t 4]
theorem comp95 : Try.f95.body.bind (comp Try.prog 46) = some ac95 := by kernel_rfl
theorem cres95 : compRes Try.prog Try.f95.results.toList = some ar95 := by kernel_rfl
/-- (bilander/bilanderref01.Reader).Fixed -/
def ac96 : AC :=
 (.seq
  (.reg [⟨(some 2), none, .box 2 (.t 0)⟩,
    ⟨(some 4), none, .alloc [.nils, (.int .i64 0)]⟩,
    ⟨(some 5), none, .mv (.c (.int .u64 0))⟩])
  (.seq
   (.reg [⟨(some 7), none, .mv (.t 1)⟩,
     ⟨(some 8), none, .minmax false (.t 7) (.c (.int .i64 8))⟩,
     ⟨(some 9), none, .minmax true (.c (.int .i64 0)) (.t 8)⟩,
     ⟨(some 6), none, .take 9⟩])
   (.seq
    (.block 0
     (.seq
      (.reg [⟨(some 11), none, .faddr (.t 2) 1⟩,
        ⟨(some 12), none, .load none (.t 11)⟩,
        ⟨(some 13), none, .bin .neq (.t 12) (.c (.int .i64 0))⟩,
        ⟨(some 10), none, .take 13⟩])
      (.cond (.t 10)
       (.seq
        (.reg [⟨(some 14), none, .load (some 2) (.t 2)⟩,
          ⟨none, none, .store 2 (.t 4) (.t 14)⟩,
          ⟨(some 5), none, .mv (.c (.int .u64 0))⟩])
        .ret)
       (.seq
        (.reg [⟨(some 16), none, .faddr (.t 2) 0⟩,
          ⟨(some 17), none, .load none (.t 16)⟩,
          ⟨(some 18), none, .len false (.t 17)⟩,
          ⟨(some 19), none, .mv (.t 6)⟩,
          ⟨(some 20), none, .bin .lss (.t 18) (.t 19)⟩,
          ⟨(some 15), none, .take 20⟩])
        (.cond (.t 15)
         (.seq
          (.reg [⟨(some 21), none, .faddr (.t 2) 0⟩,
            ⟨(some 22), none, .load none (.t 21)⟩,
            ⟨(some 23), none, .build [.nils, (.int .i64 0)] [(0, 1, (.t 22)), (1, 1, (.c (.int .i64 3)))]⟩,
            ⟨none, none, .store 2 (.t 4) (.t 23)⟩,
            ⟨(some 5), none, .mv (.c (.int .u64 0))⟩])
          .ret)
         .skip)))))
    (.seq
     (.dreg [] [⟨(some 24), none, .faddr (.t 2) 0⟩,
       ⟨(some 25), none, .load none (.t 24)⟩,
       ⟨(some 26), none, .mv (.t 6)⟩,
       ⟨(some 27), none, .slc false 1 (.t 25) (some (.t 26)) none⟩,
       ⟨(some 28), none, .build [.nils, (.int .i64 0)] [(0, 1, (.t 27)), (1, 1, (.c (.int .i64 0)))]⟩,
       ⟨(some 29), none, .faddr (.t 2) 0⟩,
       ⟨(some 30), none, .load none (.t 29)⟩,
       ⟨(some 31), none, .mv (.t 6)⟩,
       ⟨(some 32), none, .slc false 1 (.t 30) none (some (.t 31))⟩,
       ⟨(some 33), none, .call 104 [(.t 32)]⟩,
       ⟨none, none, .store 2 (.t 4) (.t 28)⟩,
       ⟨(some 5), none, .take 33⟩])
     .ret))))
def ar96 : List AR := [.c 4 (some 2), .t 5]
theorem comp96 : Try.f96.body.bind (comp Try.prog 34) = some ac96 := by kernel_rfl
theorem cres96 : compRes Try.prog Try.f96.results.toList = some ar96 := by kernel_rfl
/-- bilander/bilanderref01.Get -/
def ac97 : AC :=
 (.seq
  (.reg [⟨(some 2), none, .mv (.c (.int .i64 0))⟩,
    ⟨(some 3), none, .mv (.c (.int .i64 0))⟩,
    ⟨(some 4), none, .mv (.c (.int .i64 0))⟩])
  (.seq
   (.reg [⟨(some 5), none, .mv (.c (.int .i64 0))⟩])
   (.seq
    (.block 0
     (.loop
      (.seq
       (.seq
        (.reg [⟨(some 8), none, .mv (.t 5)⟩,
          ⟨(some 9), none, .mv (.t 0)⟩,
          ⟨(some 10), none, .len false (.t 9)⟩,
          ⟨(some 11), none, .bin .lss (.t 8) (.t 10)⟩,
          ⟨(some 12), none, .take 11⟩,
          ⟨(some 13), (some (12, true)), .mv (.t 5)⟩,
          ⟨(some 14), (some (12, true)), .bin .lss (.t 13) (.c (.int .i64 10))⟩,
          ⟨(some 15), none, .pick (.t 12) (.t 14) (.c (.bool false))⟩,
          ⟨(some 16), none, .take 15⟩,
          ⟨(some 17), (some (16, true)), .mv (.t 0)⟩,
          ⟨(some 18), (some (16, true)), .mv (.t 5)⟩,
          ⟨(some 19), (some (16, true)), .iaddr 1 (.t 17) (.t 18)⟩,
          ⟨(some 20), (some (16, true)), .load none (.t 19)⟩,
          ⟨(some 21), (some (16, true)), .bin .geq (.t 20) (.c (.int .u8 128))⟩,
          ⟨(some 22), none, .pick (.t 16) (.t 21) (.c (.bool false))⟩])
        (.cond (.t 22)
         .skip
         (.exit 0)))
       (.block 1
        (.reg [⟨(some 23), none, .take 5⟩,
          ⟨(some 24), none, .bin .add (.t 23) (.c (.int .i64 1))⟩,
          ⟨(some 5), none, .take 24⟩])))))
    (.seq
     (.block 2
      (.seq
       (.reg [⟨(some 26), none, .mv (.t 5)⟩,
         ⟨(some 27), none, .bin .eql (.t 26) (.c (.int .i64 10))⟩,
         ⟨(some 25), none, .take 27⟩])
       (.cond (.t 25)
        (.seq
         (.reg [⟨(some 2), none, .mv (.c (.int .i64 0))⟩,
           ⟨(some 3), none, .mv (.c (.int .i64 0))⟩,
           ⟨(some 4), none, .mv (.c (.int .i64 4))⟩])
         .ret)
        (.seq
         (.reg [⟨(some 29), none, .mv (.t 5)⟩,
           ⟨(some 30), none, .mv (.t 0)⟩,
           ⟨(some 31), none, .len false (.t 30)⟩,
           ⟨(some 32), none, .bin .eql (.t 29) (.t 31)⟩,
           ⟨(some 28), none, .take 32⟩])
         (.cond (.t 28)
          (.seq
           (.reg [⟨(some 2), none, .mv (.c (.int .i64 0))⟩,
             ⟨(some 3), none, .mv (.c (.int .i64 0))⟩,
             ⟨(some 4), none, .mv (.c (.int .i64 3))⟩])
           .ret)
          .skip)))))
     (.seq
      (.reg [⟨(some 6), none, .mv (.c (.int .u64 0))⟩])
      (.seq
       (.seq
        (.reg [⟨(some 33), none, .take 5⟩,
          ⟨(some 7), none, .take 33⟩])
        (.block 3
         (.loop
          (.seq
           (.seq
            (.reg [⟨(some 34), none, .mv (.t 7)⟩,
              ⟨(some 35), none, .bin .geq (.t 34) (.c (.int .i64 0))⟩])
            (.cond (.t 35)
             .skip
             (.exit 3)))
           (.seq
            (.block 4
             (.reg [⟨(some 38), none, .take 6⟩,
               ⟨(some 39), none, .bin .mul (.c (.int .u64 128)) (.t 38)⟩,
               ⟨(some 40), none, .mv (.t 0)⟩,
               ⟨(some 41), none, .mv (.t 7)⟩,
               ⟨(some 42), none, .iaddr 1 (.t 40) (.t 41)⟩,
               ⟨(some 43), none, .load none (.t 42)⟩,
               ⟨(some 44), none, .bin .rem (.t 43) (.c (.int .u8 128))⟩,
               ⟨(some 45), none, .conv .u64 (.t 44)⟩,
               ⟨(some 46), none, .bin .add (.t 39) (.t 45)⟩,
               ⟨(some 6), none, .take 46⟩]))
            (.reg [⟨(some 36), none, .take 7⟩,
              ⟨(some 37), none, .bin .sub (.t 36) (.c (.int .i64 1))⟩,
              ⟨(some 7), none, .take 37⟩]))))))
       (.seq
        (.seq
         (.dreg [] [⟨(some 47), none, .mv (.t 6)⟩,
           ⟨(some 48), none, .call 89 [(.t 47)]⟩,
           ⟨(some 49), none, .b2s (.t 48)⟩,
           ⟨(some 50), none, .mv (.t 0)⟩,
           ⟨(some 51), none, .mv (.t 5)⟩,
           ⟨(some 52), none, .bin .add (.t 51) (.c (.int .i64 1))⟩,
           ⟨(some 53), none, .slc false 1 (.t 50) none (some (.t 52))⟩,
           ⟨(some 54), none, .b2s (.t 53)⟩,
           ⟨(some 55), none, .bin .neq (.t 49) (.t 54)⟩])
         (.cond (.t 55)
          (.seq
           (.reg [⟨(some 2), none, .mv (.c (.int .i64 0))⟩,
             ⟨(some 3), none, .mv (.c (.int .i64 0))⟩,
             ⟨(some 4), none, .mv (.c (.int .i64 4))⟩])
           .ret)
          .skip))
        (.seq
         (.reg [⟨(some 56), none, .mv (.t 6)⟩,
           ⟨(some 57), none, .call 105 [(.t 56)]⟩,
           ⟨(some 58), none, .mv (.t 5)⟩,
           ⟨(some 59), none, .bin .add (.t 58) (.c (.int .i64 1))⟩,
           ⟨(some 2), none, .take 57⟩,
           ⟨(some 3), none, .take 59⟩,
           ⟨(some 4), none, .mv (.c (.int .i64 0))⟩])
         .ret))))))))
def ar97 : List AR := [.t 2, .t 3, .t 4]
theorem comp97 : Try.f97.body.bind (comp Try.prog 60) = some ac97 := by kernel_rfl
theorem cres97 : compRes Try.prog Try.f97.results.toList = some ar97 := by kernel_rfl
/-- bilander/varnum.Zagzig -/
def ac103 : AC :=
 (.seq
  (.reg [⟨(some 2), none, .mv (.c (.int .i64 0))⟩])
  (.seq
   (.reg [⟨(some 3), none, .mv (.t 0)⟩,
     ⟨(some 4), none, .bin .shr (.t 3) (.c (.int .u64 1))⟩,
     ⟨(some 5), none, .conv .i64 (.t 4)⟩,
     ⟨(some 6), none, .mv (.t 0)⟩,
     ⟨(some 7), none, .bin .and (.t 6) (.c (.int .u64 1))⟩,
     ⟨(some 8), none, .conv .i64 (.t 7)⟩,
     ⟨(some 9), none, .una .neg (.t 8)⟩,
     ⟨(some 10), none, .bin .xor (.t 5) (.t 9)⟩,
     ⟨(some 2), none, .take 10⟩])
   .ret))
def ar103 : List AR := [.t 2]
theorem comp103 : Try.f103.body.bind (comp Try.prog 11) = some ac103 := by kernel_rfl
theorem cres103 : compRes Try.prog Try.f103.results.toList = some ar103 := by kernel_rfl
/-- bilander/bilanderref01.Unfixed -/
def ac104 : AC :=
 (.seq
  (.reg [⟨(some 2), none, .mv (.c (.int .u64 0))⟩])
  (.seq
   (.reg [⟨(some 3), none, .mv (.c (.int .u64 0))⟩])
   (.seq
    (.seq
     (.reg [⟨(some 5), none, .mv (.t 0)⟩,
       ⟨(some 6), none, .len false (.t 5)⟩,
       ⟨(some 7), none, .bin .sub (.t 6) (.c (.int .i64 8))⟩,
       ⟨(some 8), none, .minmax true (.c (.int .i64 0)) (.t 7)⟩,
       ⟨(some 4), none, .take 8⟩])
     (.block 0
      (.loop
       (.seq
        (.seq
         (.reg [⟨(some 9), none, .mv (.t 4)⟩,
           ⟨(some 10), none, .mv (.t 0)⟩,
           ⟨(some 11), none, .len false (.t 10)⟩,
           ⟨(some 12), none, .bin .lss (.t 9) (.t 11)⟩])
         (.cond (.t 12)
          .skip
          (.exit 0)))
        (.seq
         (.block 1
          (.reg [⟨(some 15), none, .take 3⟩,
            ⟨(some 16), none, .bin .mul (.c (.int .u64 256)) (.t 15)⟩,
            ⟨(some 17), none, .mv (.t 0)⟩,
            ⟨(some 18), none, .mv (.t 4)⟩,
            ⟨(some 19), none, .iaddr 1 (.t 17) (.t 18)⟩,
            ⟨(some 20), none, .load none (.t 19)⟩,
            ⟨(some 21), none, .conv .u64 (.t 20)⟩,
            ⟨(some 22), none, .bin .add (.t 16) (.t 21)⟩,
            ⟨(some 3), none, .take 22⟩]))
         (.reg [⟨(some 13), none, .take 4⟩,
           ⟨(some 14), none, .bin .add (.t 13) (.c (.int .i64 1))⟩,
           ⟨(some 4), none, .take 14⟩]))))))
    (.seq
     (.reg [⟨(some 23), none, .take 3⟩,
       ⟨(some 2), none, .take 23⟩])
     .ret))))
def ar104 : List AR := [.t 2]
theorem comp104 : Try.f104.body.bind (comp Try.prog 24) = some ac104 := by kernel_rfl
theorem cres104 : compRes Try.prog Try.f104.results.toList = some ar104 := by kernel_rfl
/-- bilander/bilanderref01.Zagzig -/
def ac105 : AC :=
 (.seq
  (.reg [⟨(some 2), none, .mv (.c (.int .i64 0))⟩])
  (.seq
   (.seq
    (.reg [⟨(some 3), none, .mv (.t 0)⟩,
      ⟨(some 4), none, .bin .rem (.t 3) (.c (.int .u64 2))⟩,
      ⟨(some 5), none, .bin .eql (.t 4) (.c (.int .u64 0))⟩])
    (.cond (.t 5)
     (.seq
      (.reg [⟨(some 6), none, .mv (.t 0)⟩,
        ⟨(some 7), none, .bin .quo (.t 6) (.c (.int .u64 2))⟩,
        ⟨(some 8), none, .conv .i64 (.t 7)⟩,
        ⟨(some 2), none, .take 8⟩])
      .ret)
     .skip))
   (.seq
    (.reg [⟨(some 9), none, .mv (.t 0)⟩,
      ⟨(some 10), none, .bin .quo (.t 9) (.c (.int .u64 2))⟩,
      ⟨(some 11), none, .conv .i64 (.t 10)⟩,
      ⟨(some 12), none, .una .neg (.t 11)⟩,
      ⟨(some 13), none, .bin .sub (.t 12) (.c (.int .i64 1))⟩,
      ⟨(some 2), none, .take 13⟩])
    .ret)))
def ar105 : List AR := [.t 2]
theorem comp105 : Try.f105.body.bind (comp Try.prog 14) = some ac105 := by kernel_rfl
theorem cres105 : compRes Try.prog Try.f105.results.toList = some ar105 := by kernel_rfl
end Go.Proofs.Ytkiimlmlfhmkiaa
