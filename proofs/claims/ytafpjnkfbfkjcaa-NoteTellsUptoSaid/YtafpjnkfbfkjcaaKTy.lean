import Derived.Test.YtafpjnkfbfkjcaaProg
import Derived.Test.YtafpjnkfbfkjcaaAxAuto
import Derived.KernelRfl
set_option linter.unusedVariables false
namespace Go.Proofs.Ytafpjnkfbfkjcaa
open Go Go.AX
instance ty0 : Ty Try.prog 0 (TypeDesc.tuple #[]) 1 0 (Value.tuple #[]) := ⟨Try.underlying0, Try.t0, rfl, rfl, rfl, rfl⟩
instance ty1 : Ty Try.prog 1 (TypeDesc.func #[] #[] false) 1 8 Value.nilFunc := ⟨Try.underlying1, Try.t1, rfl, rfl, rfl, rfl⟩
instance ty2 : Ty Try.prog 2 (TypeDesc.int IntKind.i64) 1 8 (Value.int IntKind.i64 0) := ⟨Try.underlying2, Try.t2, rfl, rfl, rfl, rfl⟩
instance ty3 : Ty Try.prog 3 (TypeDesc.int IntKind.i64) 1 8 (Value.int IntKind.i64 0) := ⟨Try.underlying3, Try.t3, rfl, rfl, rfl, rfl⟩
instance ty4 : Ty Try.prog 4 TypeDesc.bool 1 1 (Value.bool false) := ⟨Try.underlying4, Try.t4, rfl, rfl, rfl, rfl⟩
instance ty5 : Ty Try.prog 5 (TypeDesc.int IntKind.u8) 1 1 (Value.int IntKind.u8 0) := ⟨Try.underlying5, Try.t5, rfl, rfl, rfl, rfl⟩
instance ty6 : Ty Try.prog 6 (TypeDesc.int IntKind.u8) 1 1 (Value.int IntKind.u8 0) := ⟨Try.underlying6, Try.t6, rfl, rfl, rfl, rfl⟩
instance ty7 : Ty Try.prog 7 (TypeDesc.struct
      #[{ name := "x", type := 2, offset := 0, embedded := false, tag := "", pkgPath := "runtime", byteOffset := 0 },
        { name := "y", type := 3, offset := 1, embedded := false, tag := "", pkgPath := "runtime", byteOffset := 8 },
        { name := "signed", type := 4, offset := 2, embedded := false, tag := "", pkgPath := "runtime",
          byteOffset := 16 },
        { name := "code", type := 6, offset := 3, embedded := false, tag := "", pkgPath := "runtime",
          byteOffset := 17 }]) 4 24 (Value.agg #[Value.int IntKind.i64 0, Value.int IntKind.i64 0, Value.bool false, Value.int IntKind.u8 0]) := ⟨Try.underlying7, Try.t7, rfl, rfl, rfl, rfl⟩
instance ty8 : Ty Try.prog 8 (TypeDesc.struct
      #[{ name := "x", type := 2, offset := 0, embedded := false, tag := "", pkgPath := "runtime", byteOffset := 0 },
        { name := "y", type := 3, offset := 1, embedded := false, tag := "", pkgPath := "runtime", byteOffset := 8 },
        { name := "signed", type := 4, offset := 2, embedded := false, tag := "", pkgPath := "runtime",
          byteOffset := 16 },
        { name := "code", type := 6, offset := 3, embedded := false, tag := "", pkgPath := "runtime",
          byteOffset := 17 }]) 4 24 (Value.agg #[Value.int IntKind.i64 0, Value.int IntKind.i64 0, Value.bool false, Value.int IntKind.u8 0]) := ⟨Try.underlying8, Try.t8, rfl, rfl, rfl, rfl⟩
instance ty9 : Ty Try.prog 9 TypeDesc.string 1 16 (Value.string { data := #[] }) := ⟨Try.underlying9, Try.t9, rfl, rfl, rfl, rfl⟩
instance ty10 : Ty Try.prog 10 TypeDesc.string 1 16 (Value.string { data := #[] }) := ⟨Try.underlying10, Try.t10, rfl, rfl, rfl, rfl⟩
instance ty11 : Ty Try.prog 11 TypeDesc.string 1 16 (Value.string { data := #[] }) := ⟨Try.underlying11, Try.t11, rfl, rfl, rfl, rfl⟩
instance ty12 : Ty Try.prog 12 (TypeDesc.int IntKind.u64) 1 8 (Value.int IntKind.u64 0) := ⟨Try.underlying12, Try.t12, rfl, rfl, rfl, rfl⟩
instance ty13 : Ty Try.prog 13 (TypeDesc.struct
      #[{ name := "msg", type := 9, offset := 0, embedded := false, tag := "", pkgPath := "runtime", byteOffset := 0 },
        { name := "addr", type := 12, offset := 1, embedded := false, tag := "", pkgPath := "runtime",
          byteOffset := 16 }]) 2 24 (Value.agg #[Value.string { data := #[] }, Value.int IntKind.u64 0]) := ⟨Try.underlying13, Try.t13, rfl, rfl, rfl, rfl⟩
instance ty14 : Ty Try.prog 14 (TypeDesc.struct
      #[{ name := "msg", type := 9, offset := 0, embedded := false, tag := "", pkgPath := "runtime", byteOffset := 0 },
        { name := "addr", type := 12, offset := 1, embedded := false, tag := "", pkgPath := "runtime",
          byteOffset := 16 }]) 2 24 (Value.agg #[Value.string { data := #[] }, Value.int IntKind.u64 0]) := ⟨Try.underlying14, Try.t14, rfl, rfl, rfl, rfl⟩
instance ty15 : Ty Try.prog 15 (TypeDesc.pointer 59) 1 8 (Value.pointer none) := ⟨Try.underlying15, Try.t15, rfl, rfl, rfl, rfl⟩
instance ty16 : Ty Try.prog 16 (TypeDesc.pointer 62) 1 8 (Value.pointer none) := ⟨Try.underlying16, Try.t16, rfl, rfl, rfl, rfl⟩
instance ty17 : Ty Try.prog 17 (TypeDesc.pointer 72) 1 8 (Value.pointer none) := ⟨Try.underlying17, Try.t17, rfl, rfl, rfl, rfl⟩
instance ty18 : Ty Try.prog 18 (TypeDesc.struct
      #[{ name := "typ", type := 17, offset := 0, embedded := false, tag := "", pkgPath := "internal/runtime/maps",
          byteOffset := 0 }]) 1 8 (Value.agg #[Value.pointer none]) := ⟨Try.underlying18, Try.t18, rfl, rfl, rfl, rfl⟩
instance ty19 : Ty Try.prog 19 (TypeDesc.struct
      #[{ name := "typ", type := 17, offset := 0, embedded := false, tag := "", pkgPath := "internal/runtime/maps",
          byteOffset := 0 }]) 1 8 (Value.agg #[Value.pointer none]) := ⟨Try.underlying19, Try.t19, rfl, rfl, rfl, rfl⟩
instance ty20 : Ty Try.prog 20 (TypeDesc.interface #[]) 1 16 Value.nilIface := ⟨Try.underlying20, Try.t20, rfl, rfl, rfl, rfl⟩
instance ty21 : Ty Try.prog 21 (TypeDesc.int IntKind.i32) 1 4 (Value.int IntKind.i32 0) := ⟨Try.underlying21, Try.t21, rfl, rfl, rfl, rfl⟩
instance ty22 : Ty Try.prog 22 (TypeDesc.slice 5) 1 24 (Value.slice none 0 0) := ⟨Try.underlying22, Try.t22, rfl, rfl, rfl, rfl⟩
instance ty23 : Ty Try.prog 23 (TypeDesc.struct
      #[{ name := "Kind", type := 3, offset := 0, embedded := false, tag := "", pkgPath := "", byteOffset := 0 },
        { name := "N", type := 3, offset := 1, embedded := false, tag := "", pkgPath := "", byteOffset := 8 },
        { name := "B", type := 22, offset := 2, embedded := false, tag := "", pkgPath := "", byteOffset := 16 }]) 3 40 (Value.agg #[Value.int IntKind.i64 0, Value.int IntKind.i64 0, Value.slice none 0 0]) := ⟨Try.underlying23, Try.t23, rfl, rfl, rfl, rfl⟩
instance ty24 : Ty Try.prog 24 (TypeDesc.struct
      #[{ name := "Kind", type := 3, offset := 0, embedded := false, tag := "", pkgPath := "", byteOffset := 0 },
        { name := "N", type := 3, offset := 1, embedded := false, tag := "", pkgPath := "", byteOffset := 8 },
        { name := "B", type := 22, offset := 2, embedded := false, tag := "", pkgPath := "", byteOffset := 16 }]) 3 40 (Value.agg #[Value.int IntKind.i64 0, Value.int IntKind.i64 0, Value.slice none 0 0]) := ⟨Try.underlying24, Try.t24, rfl, rfl, rfl, rfl⟩
instance ty25 : Ty Try.prog 25 (TypeDesc.slice 27) 1 24 (Value.slice none 0 0) := ⟨Try.underlying25, Try.t25, rfl, rfl, rfl, rfl⟩
instance ty26 : Ty Try.prog 26 (TypeDesc.struct
      #[{ name := "Kind", type := 3, offset := 0, embedded := false, tag := "", pkgPath := "", byteOffset := 0 },
        { name := "Name", type := 9, offset := 1, embedded := false, tag := "", pkgPath := "", byteOffset := 8 },
        { name := "At", type := 3, offset := 2, embedded := false, tag := "", pkgPath := "", byteOffset := 24 },
        { name := "Size", type := 3, offset := 3, embedded := false, tag := "", pkgPath := "", byteOffset := 32 },
        { name := "V", type := 24, offset := 4, embedded := false, tag := "", pkgPath := "", byteOffset := 40 },
        { name := "L", type := 25, offset := 7, embedded := false, tag := "", pkgPath := "", byteOffset := 80 }]) 8 104 (Value.agg
        #[Value.int IntKind.i64 0, Value.string { data := #[] }, Value.int IntKind.i64 0, Value.int IntKind.i64 0,
          Value.int IntKind.i64 0, Value.int IntKind.i64 0, Value.slice none 0 0, Value.slice none 0 0]) := ⟨Try.underlying26, Try.t26, rfl, rfl, rfl, rfl⟩
instance ty27 : Ty Try.prog 27 (TypeDesc.struct
      #[{ name := "Kind", type := 3, offset := 0, embedded := false, tag := "", pkgPath := "", byteOffset := 0 },
        { name := "Name", type := 9, offset := 1, embedded := false, tag := "", pkgPath := "", byteOffset := 8 },
        { name := "At", type := 3, offset := 2, embedded := false, tag := "", pkgPath := "", byteOffset := 24 },
        { name := "Size", type := 3, offset := 3, embedded := false, tag := "", pkgPath := "", byteOffset := 32 },
        { name := "V", type := 24, offset := 4, embedded := false, tag := "", pkgPath := "", byteOffset := 40 },
        { name := "L", type := 25, offset := 7, embedded := false, tag := "", pkgPath := "", byteOffset := 80 }]) 8 104 (Value.agg
        #[Value.int IntKind.i64 0, Value.string { data := #[] }, Value.int IntKind.i64 0, Value.int IntKind.i64 0,
          Value.int IntKind.i64 0, Value.int IntKind.i64 0, Value.slice none 0 0, Value.slice none 0 0]) := ⟨Try.underlying27, Try.t27, rfl, rfl, rfl, rfl⟩
instance ty28 : Ty Try.prog 28 (TypeDesc.func #[25] #[3] false) 1 8 Value.nilFunc := ⟨Try.underlying28, Try.t28, rfl, rfl, rfl, rfl⟩
instance ty29 : Ty Try.prog 29 (TypeDesc.func #[] #[4] false) 1 8 Value.nilFunc := ⟨Try.underlying29, Try.t29, rfl, rfl, rfl, rfl⟩
instance ty30 : Ty Try.prog 30 (TypeDesc.slice 40) 1 24 (Value.slice none 0 0) := ⟨Try.underlying30, Try.t30, rfl, rfl, rfl, rfl⟩
instance ty31 : Ty Try.prog 31 (TypeDesc.int IntKind.i64) 1 8 (Value.int IntKind.i64 0) := ⟨Try.underlying31, Try.t31, rfl, rfl, rfl, rfl⟩
instance ty32 : Ty Try.prog 32 (TypeDesc.tuple #[30, 31]) 1 0 (Value.tuple #[Value.slice none 0 0, Value.int IntKind.i64 0]) := ⟨Try.underlying32, Try.t32, rfl, rfl, rfl, rfl⟩
instance ty33 : Ty Try.prog 33 (TypeDesc.func #[27, 3] #[30, 31] false) 1 8 Value.nilFunc := ⟨Try.underlying33, Try.t33, rfl, rfl, rfl, rfl⟩
instance ty34 : Ty Try.prog 34 (TypeDesc.slice 45) 1 24 (Value.slice none 0 0) := ⟨Try.underlying34, Try.t34, rfl, rfl, rfl, rfl⟩
instance ty35 : Ty Try.prog 35 (TypeDesc.tuple #[34, 31]) 1 0 (Value.tuple #[Value.slice none 0 0, Value.int IntKind.i64 0]) := ⟨Try.underlying35, Try.t35, rfl, rfl, rfl, rfl⟩
instance ty36 : Ty Try.prog 36 (TypeDesc.func #[27, 3] #[34, 31] false) 1 8 Value.nilFunc := ⟨Try.underlying36, Try.t36, rfl, rfl, rfl, rfl⟩
instance ty37 : Ty Try.prog 37 (TypeDesc.func #[30, 34] #[4] false) 1 8 Value.nilFunc := ⟨Try.underlying37, Try.t37, rfl, rfl, rfl, rfl⟩
instance ty38 : Ty Try.prog 38 (TypeDesc.func #[27, 3] #[4] false) 1 8 Value.nilFunc := ⟨Try.underlying38, Try.t38, rfl, rfl, rfl, rfl⟩
instance ty39 : Ty Try.prog 39 (TypeDesc.struct
      #[{ name := "Packet", type := 3, offset := 0, embedded := false, tag := "", pkgPath := "", byteOffset := 0 },
        { name := "Grave", type := 3, offset := 1, embedded := false, tag := "", pkgPath := "", byteOffset := 8 },
        { name := "Group", type := 9, offset := 2, embedded := false, tag := "", pkgPath := "", byteOffset := 16 },
        { name := "Text", type := 9, offset := 3, embedded := false, tag := "", pkgPath := "", byteOffset := 32 },
        { name := "Proto", type := 9, offset := 4, embedded := false, tag := "", pkgPath := "", byteOffset := 48 },
        { name := "At", type := 3, offset := 5, embedded := false, tag := "", pkgPath := "", byteOffset := 64 },
        { name := "Times", type := 3, offset := 6, embedded := false, tag := "", pkgPath := "", byteOffset := 72 }]) 7 80 (Value.agg
        #[Value.int IntKind.i64 0, Value.int IntKind.i64 0, Value.string { data := #[] }, Value.string { data := #[] },
          Value.string { data := #[] }, Value.int IntKind.i64 0, Value.int IntKind.i64 0]) := ⟨Try.underlying39, Try.t39, rfl, rfl, rfl, rfl⟩
instance ty40 : Ty Try.prog 40 (TypeDesc.struct
      #[{ name := "Packet", type := 3, offset := 0, embedded := false, tag := "", pkgPath := "", byteOffset := 0 },
        { name := "Grave", type := 3, offset := 1, embedded := false, tag := "", pkgPath := "", byteOffset := 8 },
        { name := "Group", type := 9, offset := 2, embedded := false, tag := "", pkgPath := "", byteOffset := 16 },
        { name := "Text", type := 9, offset := 3, embedded := false, tag := "", pkgPath := "", byteOffset := 32 },
        { name := "Proto", type := 9, offset := 4, embedded := false, tag := "", pkgPath := "", byteOffset := 48 },
        { name := "At", type := 3, offset := 5, embedded := false, tag := "", pkgPath := "", byteOffset := 64 },
        { name := "Times", type := 3, offset := 6, embedded := false, tag := "", pkgPath := "", byteOffset := 72 }]) 7 80 (Value.agg
        #[Value.int IntKind.i64 0, Value.int IntKind.i64 0, Value.string { data := #[] }, Value.string { data := #[] },
          Value.string { data := #[] }, Value.int IntKind.i64 0, Value.int IntKind.i64 0]) := ⟨Try.underlying40, Try.t40, rfl, rfl, rfl, rfl⟩
instance ty41 : Ty Try.prog 41 (TypeDesc.tuple #[30, 3]) 1 0 (Value.tuple #[Value.slice none 0 0, Value.int IntKind.i64 0]) := ⟨Try.underlying41, Try.t41, rfl, rfl, rfl, rfl⟩
instance ty42 : Ty Try.prog 42 (TypeDesc.func #[27, 3] #[30, 3] false) 1 8 Value.nilFunc := ⟨Try.underlying42, Try.t42, rfl, rfl, rfl, rfl⟩
instance ty43 : Ty Try.prog 43 (TypeDesc.func #[27] #[3] false) 1 8 Value.nilFunc := ⟨Try.underlying43, Try.t43, rfl, rfl, rfl, rfl⟩
instance ty44 : Ty Try.prog 44 (TypeDesc.func #[34, 27, 9] #[34] false) 1 8 Value.nilFunc := ⟨Try.underlying44, Try.t44, rfl, rfl, rfl, rfl⟩
instance ty45 : Ty Try.prog 45 (TypeDesc.struct
      #[{ name := "Packet", type := 3, offset := 0, embedded := false, tag := "", pkgPath := "", byteOffset := 0 },
        { name := "Grave", type := 3, offset := 1, embedded := false, tag := "", pkgPath := "", byteOffset := 8 },
        { name := "Group", type := 9, offset := 2, embedded := false, tag := "", pkgPath := "", byteOffset := 16 },
        { name := "Text", type := 9, offset := 3, embedded := false, tag := "", pkgPath := "", byteOffset := 32 },
        { name := "Proto", type := 9, offset := 4, embedded := false, tag := "", pkgPath := "", byteOffset := 48 },
        { name := "At", type := 3, offset := 5, embedded := false, tag := "", pkgPath := "", byteOffset := 64 },
        { name := "Times", type := 3, offset := 6, embedded := false, tag := "", pkgPath := "", byteOffset := 72 }]) 7 80 (Value.agg
        #[Value.int IntKind.i64 0, Value.int IntKind.i64 0, Value.string { data := #[] }, Value.string { data := #[] },
          Value.string { data := #[] }, Value.int IntKind.i64 0, Value.int IntKind.i64 0]) := ⟨Try.underlying45, Try.t45, rfl, rfl, rfl, rfl⟩
instance ty46 : Ty Try.prog 46 (TypeDesc.func #[27, 9, 52] #[] false) 1 8 Value.nilFunc := ⟨Try.underlying46, Try.t46, rfl, rfl, rfl, rfl⟩
instance ty47 : Ty Try.prog 47 (TypeDesc.tuple #[40, 4]) 1 0 (Value.tuple
        #[Value.agg
            #[Value.int IntKind.i64 0, Value.int IntKind.i64 0, Value.string { data := #[] },
              Value.string { data := #[] }, Value.string { data := #[] }, Value.int IntKind.i64 0,
              Value.int IntKind.i64 0],
          Value.bool false]) := ⟨Try.underlying47, Try.t47, rfl, rfl, rfl, rfl⟩
instance ty48 : Ty Try.prog 48 (TypeDesc.func #[27] #[40, 4] false) 1 8 Value.nilFunc := ⟨Try.underlying48, Try.t48, rfl, rfl, rfl, rfl⟩
instance ty49 : Ty Try.prog 49 (TypeDesc.func #[30, 51] #[3] false) 1 8 Value.nilFunc := ⟨Try.underlying49, Try.t49, rfl, rfl, rfl, rfl⟩
instance ty50 : Ty Try.prog 50 (TypeDesc.func #[40, 40] #[4] false) 1 8 Value.nilFunc := ⟨Try.underlying50, Try.t50, rfl, rfl, rfl, rfl⟩
instance ty51 : Ty Try.prog 51 (TypeDesc.func #[40] #[4] false) 1 8 Value.nilFunc := ⟨Try.underlying51, Try.t51, rfl, rfl, rfl, rfl⟩
instance ty52 : Ty Try.prog 52 (TypeDesc.func #[27, 9] #[] false) 1 8 Value.nilFunc := ⟨Try.underlying52, Try.t52, rfl, rfl, rfl, rfl⟩
instance ty53 : Ty Try.prog 53 (TypeDesc.func #[34, 45] #[34] false) 1 8 Value.nilFunc := ⟨Try.underlying53, Try.t53, rfl, rfl, rfl, rfl⟩
instance ty54 : Ty Try.prog 54 (TypeDesc.func #[3] #[9] false) 1 8 Value.nilFunc := ⟨Try.underlying54, Try.t54, rfl, rfl, rfl, rfl⟩
instance ty55 : Ty Try.prog 55 (TypeDesc.func #[45, 45] #[4] false) 1 8 Value.nilFunc := ⟨Try.underlying55, Try.t55, rfl, rfl, rfl, rfl⟩
instance ty56 : Ty Try.prog 56 (TypeDesc.slice 9) 1 24 (Value.slice none 0 0) := ⟨Try.underlying56, Try.t56, rfl, rfl, rfl, rfl⟩
instance ty57 : Ty Try.prog 57 (TypeDesc.func #[] #[9] false) 1 8 Value.nilFunc := ⟨Try.underlying57, Try.t57, rfl, rfl, rfl, rfl⟩
instance ty58 : Ty Try.prog 58 (TypeDesc.struct
      #[{ name := "_interface", type := 17, offset := 0, embedded := false, tag := "", pkgPath := "runtime",
          byteOffset := 0 },
        { name := "concrete", type := 17, offset := 1, embedded := false, tag := "", pkgPath := "runtime",
          byteOffset := 8 },
        { name := "asserted", type := 17, offset := 2, embedded := false, tag := "", pkgPath := "runtime",
          byteOffset := 16 },
        { name := "missingMethod", type := 9, offset := 3, embedded := false, tag := "", pkgPath := "runtime",
          byteOffset := 24 }]) 4 40 (Value.agg #[Value.pointer none, Value.pointer none, Value.pointer none, Value.string { data := #[] }]) := ⟨Try.underlying58, Try.t58, rfl, rfl, rfl, rfl⟩
instance ty59 : Ty Try.prog 59 (TypeDesc.struct
      #[{ name := "_interface", type := 17, offset := 0, embedded := false, tag := "", pkgPath := "runtime",
          byteOffset := 0 },
        { name := "concrete", type := 17, offset := 1, embedded := false, tag := "", pkgPath := "runtime",
          byteOffset := 8 },
        { name := "asserted", type := 17, offset := 2, embedded := false, tag := "", pkgPath := "runtime",
          byteOffset := 16 },
        { name := "missingMethod", type := 9, offset := 3, embedded := false, tag := "", pkgPath := "runtime",
          byteOffset := 24 }]) 4 40 (Value.agg #[Value.pointer none, Value.pointer none, Value.pointer none, Value.string { data := #[] }]) := ⟨Try.underlying59, Try.t59, rfl, rfl, rfl, rfl⟩
instance ty60 : Ty Try.prog 60 (TypeDesc.array 0 16) 0 0 (Value.agg #[]) := ⟨Try.underlying60, Try.t60, rfl, rfl, rfl, rfl⟩
instance ty61 : Ty Try.prog 61 (TypeDesc.struct
      #[{ name := "_", type := 60, offset := 0, embedded := false, tag := "", pkgPath := "runtime", byteOffset := 0 }]) 0 0 (Value.agg #[]) := ⟨Try.underlying61, Try.t61, rfl, rfl, rfl, rfl⟩
instance ty62 : Ty Try.prog 62 (TypeDesc.struct
      #[{ name := "_", type := 60, offset := 0, embedded := false, tag := "", pkgPath := "runtime", byteOffset := 0 }]) 0 0 (Value.agg #[]) := ⟨Try.underlying62, Try.t62, rfl, rfl, rfl, rfl⟩
instance ty63 : Ty Try.prog 63 (TypeDesc.func #[] #[3] false) 1 8 Value.nilFunc := ⟨Try.underlying63, Try.t63, rfl, rfl, rfl, rfl⟩
instance ty64 : Ty Try.prog 64 (TypeDesc.int IntKind.u32) 1 4 (Value.int IntKind.u32 0) := ⟨Try.underlying64, Try.t64, rfl, rfl, rfl, rfl⟩
instance ty65 : Ty Try.prog 65 (TypeDesc.int IntKind.u8) 1 1 (Value.int IntKind.u8 0) := ⟨Try.underlying65, Try.t65, rfl, rfl, rfl, rfl⟩
instance ty66 : Ty Try.prog 66 (TypeDesc.int IntKind.u8) 1 1 (Value.int IntKind.u8 0) := ⟨Try.underlying66, Try.t66, rfl, rfl, rfl, rfl⟩
instance ty67 : Ty Try.prog 67 (TypeDesc.func #[73, 73] #[4] false) 1 8 Value.nilFunc := ⟨Try.underlying67, Try.t67, rfl, rfl, rfl, rfl⟩
instance ty68 : Ty Try.prog 68 (TypeDesc.pointer 5) 1 8 (Value.pointer none) := ⟨Try.underlying68, Try.t68, rfl, rfl, rfl, rfl⟩
instance ty69 : Ty Try.prog 69 (TypeDesc.int IntKind.i32) 1 4 (Value.int IntKind.i32 0) := ⟨Try.underlying69, Try.t69, rfl, rfl, rfl, rfl⟩
instance ty70 : Ty Try.prog 70 (TypeDesc.int IntKind.i32) 1 4 (Value.int IntKind.i32 0) := ⟨Try.underlying70, Try.t70, rfl, rfl, rfl, rfl⟩
instance ty71 : Ty Try.prog 71 (TypeDesc.struct
      #[{ name := "Size_", type := 12, offset := 0, embedded := false, tag := "", pkgPath := "", byteOffset := 0 },
        { name := "PtrBytes", type := 12, offset := 1, embedded := false, tag := "", pkgPath := "", byteOffset := 8 },
        { name := "Hash", type := 64, offset := 2, embedded := false, tag := "", pkgPath := "", byteOffset := 16 },
        { name := "TFlag", type := 65, offset := 3, embedded := false, tag := "", pkgPath := "", byteOffset := 20 },
        { name := "Align_", type := 5, offset := 4, embedded := false, tag := "", pkgPath := "", byteOffset := 21 },
        { name := "FieldAlign_", type := 5, offset := 5, embedded := false, tag := "", pkgPath := "",
          byteOffset := 22 },
        { name := "Kind_", type := 66, offset := 6, embedded := false, tag := "", pkgPath := "", byteOffset := 23 },
        { name := "Equal", type := 67, offset := 7, embedded := false, tag := "", pkgPath := "", byteOffset := 24 },
        { name := "GCData", type := 68, offset := 8, embedded := false, tag := "", pkgPath := "", byteOffset := 32 },
        { name := "Str", type := 69, offset := 9, embedded := false, tag := "", pkgPath := "", byteOffset := 40 },
        { name := "PtrToThis", type := 70, offset := 10, embedded := false, tag := "", pkgPath := "",
          byteOffset := 44 }]) 11 48 (Value.agg
        #[Value.int IntKind.u64 0, Value.int IntKind.u64 0, Value.int IntKind.u32 0, Value.int IntKind.u8 0,
          Value.int IntKind.u8 0, Value.int IntKind.u8 0, Value.int IntKind.u8 0, Value.nilFunc, Value.pointer none,
          Value.int IntKind.i32 0, Value.int IntKind.i32 0]) := ⟨Try.underlying71, Try.t71, rfl, rfl, rfl, rfl⟩
instance ty72 : Ty Try.prog 72 (TypeDesc.struct
      #[{ name := "Size_", type := 12, offset := 0, embedded := false, tag := "", pkgPath := "", byteOffset := 0 },
        { name := "PtrBytes", type := 12, offset := 1, embedded := false, tag := "", pkgPath := "", byteOffset := 8 },
        { name := "Hash", type := 64, offset := 2, embedded := false, tag := "", pkgPath := "", byteOffset := 16 },
        { name := "TFlag", type := 65, offset := 3, embedded := false, tag := "", pkgPath := "", byteOffset := 20 },
        { name := "Align_", type := 5, offset := 4, embedded := false, tag := "", pkgPath := "", byteOffset := 21 },
        { name := "FieldAlign_", type := 5, offset := 5, embedded := false, tag := "", pkgPath := "",
          byteOffset := 22 },
        { name := "Kind_", type := 66, offset := 6, embedded := false, tag := "", pkgPath := "", byteOffset := 23 },
        { name := "Equal", type := 67, offset := 7, embedded := false, tag := "", pkgPath := "", byteOffset := 24 },
        { name := "GCData", type := 68, offset := 8, embedded := false, tag := "", pkgPath := "", byteOffset := 32 },
        { name := "Str", type := 69, offset := 9, embedded := false, tag := "", pkgPath := "", byteOffset := 40 },
        { name := "PtrToThis", type := 70, offset := 10, embedded := false, tag := "", pkgPath := "",
          byteOffset := 44 }]) 11 48 (Value.agg
        #[Value.int IntKind.u64 0, Value.int IntKind.u64 0, Value.int IntKind.u32 0, Value.int IntKind.u8 0,
          Value.int IntKind.u8 0, Value.int IntKind.u8 0, Value.int IntKind.u8 0, Value.nilFunc, Value.pointer none,
          Value.int IntKind.i32 0, Value.int IntKind.i32 0]) := ⟨Try.underlying72, Try.t72, rfl, rfl, rfl, rfl⟩
instance ty73 : Ty Try.prog 73 TypeDesc.unsafePointer 1 8 (Value.pointer none) := ⟨Try.underlying73, Try.t73, rfl, rfl, rfl, rfl⟩
instance fa7_0 : FieldAt Try.prog 7 0 0 := FieldAt.of (i := 0) Try.underlying7 rfl ty2 (by decide)
instance fo7_0 : FieldOf Try.prog 7 0 0 false 1 := FieldOf.of (i := 0) Try.underlying7 rfl ty2
instance fa7_1 : FieldAt Try.prog 7 1 1 := FieldAt.of (i := 1) Try.underlying7 rfl ty3 (by decide)
instance fo7_1 : FieldOf Try.prog 7 1 1 false 1 := FieldOf.of (i := 1) Try.underlying7 rfl ty3
instance fa7_2 : FieldAt Try.prog 7 2 2 := FieldAt.of (i := 2) Try.underlying7 rfl ty4 (by decide)
instance fo7_2 : FieldOf Try.prog 7 2 2 false 1 := FieldOf.of (i := 2) Try.underlying7 rfl ty4
instance fa7_3 : FieldAt Try.prog 7 3 3 := FieldAt.of (i := 3) Try.underlying7 rfl ty6 (by decide)
instance fo7_3 : FieldOf Try.prog 7 3 3 false 1 := FieldOf.of (i := 3) Try.underlying7 rfl ty6
instance bt7 : BuildT Try.prog 7 [(0, 1), (1, 1), (2, 1), (3, 1)] [Value.int IntKind.i64 0, Value.int IntKind.i64 0, Value.bool false, Value.int IntKind.u8 0] := BuildT.of Try.underlying7 Try.zeroValue7 (fun w => by kernel_rfl) (by decide)
instance fa8_0 : FieldAt Try.prog 8 0 0 := FieldAt.of (i := 0) Try.underlying8 rfl ty2 (by decide)
instance fo8_0 : FieldOf Try.prog 8 0 0 false 1 := FieldOf.of (i := 0) Try.underlying8 rfl ty2
instance fa8_1 : FieldAt Try.prog 8 1 1 := FieldAt.of (i := 1) Try.underlying8 rfl ty3 (by decide)
instance fo8_1 : FieldOf Try.prog 8 1 1 false 1 := FieldOf.of (i := 1) Try.underlying8 rfl ty3
instance fa8_2 : FieldAt Try.prog 8 2 2 := FieldAt.of (i := 2) Try.underlying8 rfl ty4 (by decide)
instance fo8_2 : FieldOf Try.prog 8 2 2 false 1 := FieldOf.of (i := 2) Try.underlying8 rfl ty4
instance fa8_3 : FieldAt Try.prog 8 3 3 := FieldAt.of (i := 3) Try.underlying8 rfl ty6 (by decide)
instance fo8_3 : FieldOf Try.prog 8 3 3 false 1 := FieldOf.of (i := 3) Try.underlying8 rfl ty6
instance bt8 : BuildT Try.prog 8 [(0, 1), (1, 1), (2, 1), (3, 1)] [Value.int IntKind.i64 0, Value.int IntKind.i64 0, Value.bool false, Value.int IntKind.u8 0] := BuildT.of Try.underlying8 Try.zeroValue8 (fun w => by kernel_rfl) (by decide)
instance fa13_0 : FieldAt Try.prog 13 0 0 := FieldAt.of (i := 0) Try.underlying13 rfl ty9 (by decide)
instance fo13_0 : FieldOf Try.prog 13 0 0 false 1 := FieldOf.of (i := 0) Try.underlying13 rfl ty9
instance fa13_1 : FieldAt Try.prog 13 1 1 := FieldAt.of (i := 1) Try.underlying13 rfl ty12 (by decide)
instance fo13_1 : FieldOf Try.prog 13 1 1 false 1 := FieldOf.of (i := 1) Try.underlying13 rfl ty12
instance bt13 : BuildT Try.prog 13 [(0, 1), (1, 1)] [Value.string { data := #[] }, Value.int IntKind.u64 0] := BuildT.of Try.underlying13 Try.zeroValue13 (fun w => by kernel_rfl) (by decide)
instance fa14_0 : FieldAt Try.prog 14 0 0 := FieldAt.of (i := 0) Try.underlying14 rfl ty9 (by decide)
instance fo14_0 : FieldOf Try.prog 14 0 0 false 1 := FieldOf.of (i := 0) Try.underlying14 rfl ty9
instance fa14_1 : FieldAt Try.prog 14 1 1 := FieldAt.of (i := 1) Try.underlying14 rfl ty12 (by decide)
instance fo14_1 : FieldOf Try.prog 14 1 1 false 1 := FieldOf.of (i := 1) Try.underlying14 rfl ty12
instance bt14 : BuildT Try.prog 14 [(0, 1), (1, 1)] [Value.string { data := #[] }, Value.int IntKind.u64 0] := BuildT.of Try.underlying14 Try.zeroValue14 (fun w => by kernel_rfl) (by decide)
instance fa18_0 : FieldAt Try.prog 18 0 0 := FieldAt.of (i := 0) Try.underlying18 rfl ty17 (by decide)
instance fo18_0 : FieldOf Try.prog 18 0 0 false 1 := FieldOf.of (i := 0) Try.underlying18 rfl ty17
instance bt18 : BuildT Try.prog 18 [(0, 1)] [Value.pointer none] := BuildT.of Try.underlying18 Try.zeroValue18 (fun w => by kernel_rfl) (by decide)
instance fa19_0 : FieldAt Try.prog 19 0 0 := FieldAt.of (i := 0) Try.underlying19 rfl ty17 (by decide)
instance fo19_0 : FieldOf Try.prog 19 0 0 false 1 := FieldOf.of (i := 0) Try.underlying19 rfl ty17
instance bt19 : BuildT Try.prog 19 [(0, 1)] [Value.pointer none] := BuildT.of Try.underlying19 Try.zeroValue19 (fun w => by kernel_rfl) (by decide)
instance fa23_0 : FieldAt Try.prog 23 0 0 := FieldAt.of (i := 0) Try.underlying23 rfl ty3 (by decide)
instance fo23_0 : FieldOf Try.prog 23 0 0 false 1 := FieldOf.of (i := 0) Try.underlying23 rfl ty3
instance fa23_1 : FieldAt Try.prog 23 1 1 := FieldAt.of (i := 1) Try.underlying23 rfl ty3 (by decide)
instance fo23_1 : FieldOf Try.prog 23 1 1 false 1 := FieldOf.of (i := 1) Try.underlying23 rfl ty3
instance fa23_2 : FieldAt Try.prog 23 2 2 := FieldAt.of (i := 2) Try.underlying23 rfl ty22 (by decide)
instance fo23_2 : FieldOf Try.prog 23 2 2 false 1 := FieldOf.of (i := 2) Try.underlying23 rfl ty22
instance bt23 : BuildT Try.prog 23 [(0, 1), (1, 1), (2, 1)] [Value.int IntKind.i64 0, Value.int IntKind.i64 0, Value.slice none 0 0] := BuildT.of Try.underlying23 Try.zeroValue23 (fun w => by kernel_rfl) (by decide)
instance fa24_0 : FieldAt Try.prog 24 0 0 := FieldAt.of (i := 0) Try.underlying24 rfl ty3 (by decide)
instance fo24_0 : FieldOf Try.prog 24 0 0 false 1 := FieldOf.of (i := 0) Try.underlying24 rfl ty3
instance fa24_1 : FieldAt Try.prog 24 1 1 := FieldAt.of (i := 1) Try.underlying24 rfl ty3 (by decide)
instance fo24_1 : FieldOf Try.prog 24 1 1 false 1 := FieldOf.of (i := 1) Try.underlying24 rfl ty3
instance fa24_2 : FieldAt Try.prog 24 2 2 := FieldAt.of (i := 2) Try.underlying24 rfl ty22 (by decide)
instance fo24_2 : FieldOf Try.prog 24 2 2 false 1 := FieldOf.of (i := 2) Try.underlying24 rfl ty22
instance bt24 : BuildT Try.prog 24 [(0, 1), (1, 1), (2, 1)] [Value.int IntKind.i64 0, Value.int IntKind.i64 0, Value.slice none 0 0] := BuildT.of Try.underlying24 Try.zeroValue24 (fun w => by kernel_rfl) (by decide)
instance fa26_0 : FieldAt Try.prog 26 0 0 := FieldAt.of (i := 0) Try.underlying26 rfl ty3 (by decide)
instance fo26_0 : FieldOf Try.prog 26 0 0 false 1 := FieldOf.of (i := 0) Try.underlying26 rfl ty3
instance fa26_1 : FieldAt Try.prog 26 1 1 := FieldAt.of (i := 1) Try.underlying26 rfl ty9 (by decide)
instance fo26_1 : FieldOf Try.prog 26 1 1 false 1 := FieldOf.of (i := 1) Try.underlying26 rfl ty9
instance fa26_2 : FieldAt Try.prog 26 2 2 := FieldAt.of (i := 2) Try.underlying26 rfl ty3 (by decide)
instance fo26_2 : FieldOf Try.prog 26 2 2 false 1 := FieldOf.of (i := 2) Try.underlying26 rfl ty3
instance fa26_3 : FieldAt Try.prog 26 3 3 := FieldAt.of (i := 3) Try.underlying26 rfl ty3 (by decide)
instance fo26_3 : FieldOf Try.prog 26 3 3 false 1 := FieldOf.of (i := 3) Try.underlying26 rfl ty3
instance fa26_4 : FieldAt Try.prog 26 4 4 := FieldAt.of (i := 4) Try.underlying26 rfl ty24 (by decide)
instance fo26_4 : FieldOf Try.prog 26 4 4 true 3 := FieldOf.of (i := 4) Try.underlying26 rfl ty24
instance fa26_5 : FieldAt Try.prog 26 5 7 := FieldAt.of (i := 5) Try.underlying26 rfl ty25 (by decide)
instance fo26_5 : FieldOf Try.prog 26 5 7 false 1 := FieldOf.of (i := 5) Try.underlying26 rfl ty25
instance bt26 : BuildT Try.prog 26 [(0, 1), (1, 1), (2, 1), (3, 1), (4, 3), (7, 1)] [Value.int IntKind.i64 0, Value.string { data := #[] }, Value.int IntKind.i64 0, Value.int IntKind.i64 0,
          Value.int IntKind.i64 0, Value.int IntKind.i64 0, Value.slice none 0 0, Value.slice none 0 0] := BuildT.of Try.underlying26 Try.zeroValue26 (fun w => by kernel_rfl) (by decide)
instance fa27_0 : FieldAt Try.prog 27 0 0 := FieldAt.of (i := 0) Try.underlying27 rfl ty3 (by decide)
instance fo27_0 : FieldOf Try.prog 27 0 0 false 1 := FieldOf.of (i := 0) Try.underlying27 rfl ty3
instance fa27_1 : FieldAt Try.prog 27 1 1 := FieldAt.of (i := 1) Try.underlying27 rfl ty9 (by decide)
instance fo27_1 : FieldOf Try.prog 27 1 1 false 1 := FieldOf.of (i := 1) Try.underlying27 rfl ty9
instance fa27_2 : FieldAt Try.prog 27 2 2 := FieldAt.of (i := 2) Try.underlying27 rfl ty3 (by decide)
instance fo27_2 : FieldOf Try.prog 27 2 2 false 1 := FieldOf.of (i := 2) Try.underlying27 rfl ty3
instance fa27_3 : FieldAt Try.prog 27 3 3 := FieldAt.of (i := 3) Try.underlying27 rfl ty3 (by decide)
instance fo27_3 : FieldOf Try.prog 27 3 3 false 1 := FieldOf.of (i := 3) Try.underlying27 rfl ty3
instance fa27_4 : FieldAt Try.prog 27 4 4 := FieldAt.of (i := 4) Try.underlying27 rfl ty24 (by decide)
instance fo27_4 : FieldOf Try.prog 27 4 4 true 3 := FieldOf.of (i := 4) Try.underlying27 rfl ty24
instance fa27_5 : FieldAt Try.prog 27 5 7 := FieldAt.of (i := 5) Try.underlying27 rfl ty25 (by decide)
instance fo27_5 : FieldOf Try.prog 27 5 7 false 1 := FieldOf.of (i := 5) Try.underlying27 rfl ty25
instance bt27 : BuildT Try.prog 27 [(0, 1), (1, 1), (2, 1), (3, 1), (4, 3), (7, 1)] [Value.int IntKind.i64 0, Value.string { data := #[] }, Value.int IntKind.i64 0, Value.int IntKind.i64 0,
          Value.int IntKind.i64 0, Value.int IntKind.i64 0, Value.slice none 0 0, Value.slice none 0 0] := BuildT.of Try.underlying27 Try.zeroValue27 (fun w => by kernel_rfl) (by decide)
instance fa39_0 : FieldAt Try.prog 39 0 0 := FieldAt.of (i := 0) Try.underlying39 rfl ty3 (by decide)
instance fo39_0 : FieldOf Try.prog 39 0 0 false 1 := FieldOf.of (i := 0) Try.underlying39 rfl ty3
instance fa39_1 : FieldAt Try.prog 39 1 1 := FieldAt.of (i := 1) Try.underlying39 rfl ty3 (by decide)
instance fo39_1 : FieldOf Try.prog 39 1 1 false 1 := FieldOf.of (i := 1) Try.underlying39 rfl ty3
instance fa39_2 : FieldAt Try.prog 39 2 2 := FieldAt.of (i := 2) Try.underlying39 rfl ty9 (by decide)
instance fo39_2 : FieldOf Try.prog 39 2 2 false 1 := FieldOf.of (i := 2) Try.underlying39 rfl ty9
instance fa39_3 : FieldAt Try.prog 39 3 3 := FieldAt.of (i := 3) Try.underlying39 rfl ty9 (by decide)
instance fo39_3 : FieldOf Try.prog 39 3 3 false 1 := FieldOf.of (i := 3) Try.underlying39 rfl ty9
instance fa39_4 : FieldAt Try.prog 39 4 4 := FieldAt.of (i := 4) Try.underlying39 rfl ty9 (by decide)
instance fo39_4 : FieldOf Try.prog 39 4 4 false 1 := FieldOf.of (i := 4) Try.underlying39 rfl ty9
instance fa39_5 : FieldAt Try.prog 39 5 5 := FieldAt.of (i := 5) Try.underlying39 rfl ty3 (by decide)
instance fo39_5 : FieldOf Try.prog 39 5 5 false 1 := FieldOf.of (i := 5) Try.underlying39 rfl ty3
instance fa39_6 : FieldAt Try.prog 39 6 6 := FieldAt.of (i := 6) Try.underlying39 rfl ty3 (by decide)
instance fo39_6 : FieldOf Try.prog 39 6 6 false 1 := FieldOf.of (i := 6) Try.underlying39 rfl ty3
instance bt39 : BuildT Try.prog 39 [(0, 1), (1, 1), (2, 1), (3, 1), (4, 1), (5, 1), (6, 1)] [Value.int IntKind.i64 0, Value.int IntKind.i64 0, Value.string { data := #[] }, Value.string { data := #[] },
          Value.string { data := #[] }, Value.int IntKind.i64 0, Value.int IntKind.i64 0] := BuildT.of Try.underlying39 Try.zeroValue39 (fun w => by kernel_rfl) (by decide)
instance fa40_0 : FieldAt Try.prog 40 0 0 := FieldAt.of (i := 0) Try.underlying40 rfl ty3 (by decide)
instance fo40_0 : FieldOf Try.prog 40 0 0 false 1 := FieldOf.of (i := 0) Try.underlying40 rfl ty3
instance fa40_1 : FieldAt Try.prog 40 1 1 := FieldAt.of (i := 1) Try.underlying40 rfl ty3 (by decide)
instance fo40_1 : FieldOf Try.prog 40 1 1 false 1 := FieldOf.of (i := 1) Try.underlying40 rfl ty3
instance fa40_2 : FieldAt Try.prog 40 2 2 := FieldAt.of (i := 2) Try.underlying40 rfl ty9 (by decide)
instance fo40_2 : FieldOf Try.prog 40 2 2 false 1 := FieldOf.of (i := 2) Try.underlying40 rfl ty9
instance fa40_3 : FieldAt Try.prog 40 3 3 := FieldAt.of (i := 3) Try.underlying40 rfl ty9 (by decide)
instance fo40_3 : FieldOf Try.prog 40 3 3 false 1 := FieldOf.of (i := 3) Try.underlying40 rfl ty9
instance fa40_4 : FieldAt Try.prog 40 4 4 := FieldAt.of (i := 4) Try.underlying40 rfl ty9 (by decide)
instance fo40_4 : FieldOf Try.prog 40 4 4 false 1 := FieldOf.of (i := 4) Try.underlying40 rfl ty9
instance fa40_5 : FieldAt Try.prog 40 5 5 := FieldAt.of (i := 5) Try.underlying40 rfl ty3 (by decide)
instance fo40_5 : FieldOf Try.prog 40 5 5 false 1 := FieldOf.of (i := 5) Try.underlying40 rfl ty3
instance fa40_6 : FieldAt Try.prog 40 6 6 := FieldAt.of (i := 6) Try.underlying40 rfl ty3 (by decide)
instance fo40_6 : FieldOf Try.prog 40 6 6 false 1 := FieldOf.of (i := 6) Try.underlying40 rfl ty3
instance bt40 : BuildT Try.prog 40 [(0, 1), (1, 1), (2, 1), (3, 1), (4, 1), (5, 1), (6, 1)] [Value.int IntKind.i64 0, Value.int IntKind.i64 0, Value.string { data := #[] }, Value.string { data := #[] },
          Value.string { data := #[] }, Value.int IntKind.i64 0, Value.int IntKind.i64 0] := BuildT.of Try.underlying40 Try.zeroValue40 (fun w => by kernel_rfl) (by decide)
instance fa45_0 : FieldAt Try.prog 45 0 0 := FieldAt.of (i := 0) Try.underlying45 rfl ty3 (by decide)
instance fo45_0 : FieldOf Try.prog 45 0 0 false 1 := FieldOf.of (i := 0) Try.underlying45 rfl ty3
instance fa45_1 : FieldAt Try.prog 45 1 1 := FieldAt.of (i := 1) Try.underlying45 rfl ty3 (by decide)
instance fo45_1 : FieldOf Try.prog 45 1 1 false 1 := FieldOf.of (i := 1) Try.underlying45 rfl ty3
instance fa45_2 : FieldAt Try.prog 45 2 2 := FieldAt.of (i := 2) Try.underlying45 rfl ty9 (by decide)
instance fo45_2 : FieldOf Try.prog 45 2 2 false 1 := FieldOf.of (i := 2) Try.underlying45 rfl ty9
instance fa45_3 : FieldAt Try.prog 45 3 3 := FieldAt.of (i := 3) Try.underlying45 rfl ty9 (by decide)
instance fo45_3 : FieldOf Try.prog 45 3 3 false 1 := FieldOf.of (i := 3) Try.underlying45 rfl ty9
instance fa45_4 : FieldAt Try.prog 45 4 4 := FieldAt.of (i := 4) Try.underlying45 rfl ty9 (by decide)
instance fo45_4 : FieldOf Try.prog 45 4 4 false 1 := FieldOf.of (i := 4) Try.underlying45 rfl ty9
instance fa45_5 : FieldAt Try.prog 45 5 5 := FieldAt.of (i := 5) Try.underlying45 rfl ty3 (by decide)
instance fo45_5 : FieldOf Try.prog 45 5 5 false 1 := FieldOf.of (i := 5) Try.underlying45 rfl ty3
instance fa45_6 : FieldAt Try.prog 45 6 6 := FieldAt.of (i := 6) Try.underlying45 rfl ty3 (by decide)
instance fo45_6 : FieldOf Try.prog 45 6 6 false 1 := FieldOf.of (i := 6) Try.underlying45 rfl ty3
instance bt45 : BuildT Try.prog 45 [(0, 1), (1, 1), (2, 1), (3, 1), (4, 1), (5, 1), (6, 1)] [Value.int IntKind.i64 0, Value.int IntKind.i64 0, Value.string { data := #[] }, Value.string { data := #[] },
          Value.string { data := #[] }, Value.int IntKind.i64 0, Value.int IntKind.i64 0] := BuildT.of Try.underlying45 Try.zeroValue45 (fun w => by kernel_rfl) (by decide)
instance fa58_0 : FieldAt Try.prog 58 0 0 := FieldAt.of (i := 0) Try.underlying58 rfl ty17 (by decide)
instance fo58_0 : FieldOf Try.prog 58 0 0 false 1 := FieldOf.of (i := 0) Try.underlying58 rfl ty17
instance fa58_1 : FieldAt Try.prog 58 1 1 := FieldAt.of (i := 1) Try.underlying58 rfl ty17 (by decide)
instance fo58_1 : FieldOf Try.prog 58 1 1 false 1 := FieldOf.of (i := 1) Try.underlying58 rfl ty17
instance fa58_2 : FieldAt Try.prog 58 2 2 := FieldAt.of (i := 2) Try.underlying58 rfl ty17 (by decide)
instance fo58_2 : FieldOf Try.prog 58 2 2 false 1 := FieldOf.of (i := 2) Try.underlying58 rfl ty17
instance fa58_3 : FieldAt Try.prog 58 3 3 := FieldAt.of (i := 3) Try.underlying58 rfl ty9 (by decide)
instance fo58_3 : FieldOf Try.prog 58 3 3 false 1 := FieldOf.of (i := 3) Try.underlying58 rfl ty9
instance bt58 : BuildT Try.prog 58 [(0, 1), (1, 1), (2, 1), (3, 1)] [Value.pointer none, Value.pointer none, Value.pointer none, Value.string { data := #[] }] := BuildT.of Try.underlying58 Try.zeroValue58 (fun w => by kernel_rfl) (by decide)
instance fa59_0 : FieldAt Try.prog 59 0 0 := FieldAt.of (i := 0) Try.underlying59 rfl ty17 (by decide)
instance fo59_0 : FieldOf Try.prog 59 0 0 false 1 := FieldOf.of (i := 0) Try.underlying59 rfl ty17
instance fa59_1 : FieldAt Try.prog 59 1 1 := FieldAt.of (i := 1) Try.underlying59 rfl ty17 (by decide)
instance fo59_1 : FieldOf Try.prog 59 1 1 false 1 := FieldOf.of (i := 1) Try.underlying59 rfl ty17
instance fa59_2 : FieldAt Try.prog 59 2 2 := FieldAt.of (i := 2) Try.underlying59 rfl ty17 (by decide)
instance fo59_2 : FieldOf Try.prog 59 2 2 false 1 := FieldOf.of (i := 2) Try.underlying59 rfl ty17
instance fa59_3 : FieldAt Try.prog 59 3 3 := FieldAt.of (i := 3) Try.underlying59 rfl ty9 (by decide)
instance fo59_3 : FieldOf Try.prog 59 3 3 false 1 := FieldOf.of (i := 3) Try.underlying59 rfl ty9
instance bt59 : BuildT Try.prog 59 [(0, 1), (1, 1), (2, 1), (3, 1)] [Value.pointer none, Value.pointer none, Value.pointer none, Value.string { data := #[] }] := BuildT.of Try.underlying59 Try.zeroValue59 (fun w => by kernel_rfl) (by decide)
instance fo61_0 : FieldOf Try.prog 61 0 0 true 0 := FieldOf.of (i := 0) Try.underlying61 rfl ty60
instance bt61 : BuildT Try.prog 61 [(0, 0)] [] := BuildT.of Try.underlying61 Try.zeroValue61 (fun w => by kernel_rfl) (by decide)
instance fo62_0 : FieldOf Try.prog 62 0 0 true 0 := FieldOf.of (i := 0) Try.underlying62 rfl ty60
instance bt62 : BuildT Try.prog 62 [(0, 0)] [] := BuildT.of Try.underlying62 Try.zeroValue62 (fun w => by kernel_rfl) (by decide)
instance fa71_0 : FieldAt Try.prog 71 0 0 := FieldAt.of (i := 0) Try.underlying71 rfl ty12 (by decide)
instance fo71_0 : FieldOf Try.prog 71 0 0 false 1 := FieldOf.of (i := 0) Try.underlying71 rfl ty12
instance fa71_1 : FieldAt Try.prog 71 1 1 := FieldAt.of (i := 1) Try.underlying71 rfl ty12 (by decide)
instance fo71_1 : FieldOf Try.prog 71 1 1 false 1 := FieldOf.of (i := 1) Try.underlying71 rfl ty12
instance fa71_2 : FieldAt Try.prog 71 2 2 := FieldAt.of (i := 2) Try.underlying71 rfl ty64 (by decide)
instance fo71_2 : FieldOf Try.prog 71 2 2 false 1 := FieldOf.of (i := 2) Try.underlying71 rfl ty64
instance fa71_3 : FieldAt Try.prog 71 3 3 := FieldAt.of (i := 3) Try.underlying71 rfl ty65 (by decide)
instance fo71_3 : FieldOf Try.prog 71 3 3 false 1 := FieldOf.of (i := 3) Try.underlying71 rfl ty65
instance fa71_4 : FieldAt Try.prog 71 4 4 := FieldAt.of (i := 4) Try.underlying71 rfl ty5 (by decide)
instance fo71_4 : FieldOf Try.prog 71 4 4 false 1 := FieldOf.of (i := 4) Try.underlying71 rfl ty5
instance fa71_5 : FieldAt Try.prog 71 5 5 := FieldAt.of (i := 5) Try.underlying71 rfl ty5 (by decide)
instance fo71_5 : FieldOf Try.prog 71 5 5 false 1 := FieldOf.of (i := 5) Try.underlying71 rfl ty5
instance fa71_6 : FieldAt Try.prog 71 6 6 := FieldAt.of (i := 6) Try.underlying71 rfl ty66 (by decide)
instance fo71_6 : FieldOf Try.prog 71 6 6 false 1 := FieldOf.of (i := 6) Try.underlying71 rfl ty66
instance fa71_7 : FieldAt Try.prog 71 7 7 := FieldAt.of (i := 7) Try.underlying71 rfl ty67 (by decide)
instance fo71_7 : FieldOf Try.prog 71 7 7 false 1 := FieldOf.of (i := 7) Try.underlying71 rfl ty67
instance fa71_8 : FieldAt Try.prog 71 8 8 := FieldAt.of (i := 8) Try.underlying71 rfl ty68 (by decide)
instance fo71_8 : FieldOf Try.prog 71 8 8 false 1 := FieldOf.of (i := 8) Try.underlying71 rfl ty68
instance fa71_9 : FieldAt Try.prog 71 9 9 := FieldAt.of (i := 9) Try.underlying71 rfl ty69 (by decide)
instance fo71_9 : FieldOf Try.prog 71 9 9 false 1 := FieldOf.of (i := 9) Try.underlying71 rfl ty69
instance fa71_10 : FieldAt Try.prog 71 10 10 := FieldAt.of (i := 10) Try.underlying71 rfl ty70 (by decide)
instance fo71_10 : FieldOf Try.prog 71 10 10 false 1 := FieldOf.of (i := 10) Try.underlying71 rfl ty70
instance bt71 : BuildT Try.prog 71 [(0, 1), (1, 1), (2, 1), (3, 1), (4, 1), (5, 1), (6, 1), (7, 1), (8, 1), (9, 1), (10, 1)] [Value.int IntKind.u64 0, Value.int IntKind.u64 0, Value.int IntKind.u32 0, Value.int IntKind.u8 0,
          Value.int IntKind.u8 0, Value.int IntKind.u8 0, Value.int IntKind.u8 0, Value.nilFunc, Value.pointer none,
          Value.int IntKind.i32 0, Value.int IntKind.i32 0] := BuildT.of Try.underlying71 Try.zeroValue71 (fun w => by kernel_rfl) (by decide)
instance fa72_0 : FieldAt Try.prog 72 0 0 := FieldAt.of (i := 0) Try.underlying72 rfl ty12 (by decide)
instance fo72_0 : FieldOf Try.prog 72 0 0 false 1 := FieldOf.of (i := 0) Try.underlying72 rfl ty12
instance fa72_1 : FieldAt Try.prog 72 1 1 := FieldAt.of (i := 1) Try.underlying72 rfl ty12 (by decide)
instance fo72_1 : FieldOf Try.prog 72 1 1 false 1 := FieldOf.of (i := 1) Try.underlying72 rfl ty12
instance fa72_2 : FieldAt Try.prog 72 2 2 := FieldAt.of (i := 2) Try.underlying72 rfl ty64 (by decide)
instance fo72_2 : FieldOf Try.prog 72 2 2 false 1 := FieldOf.of (i := 2) Try.underlying72 rfl ty64
instance fa72_3 : FieldAt Try.prog 72 3 3 := FieldAt.of (i := 3) Try.underlying72 rfl ty65 (by decide)
instance fo72_3 : FieldOf Try.prog 72 3 3 false 1 := FieldOf.of (i := 3) Try.underlying72 rfl ty65
instance fa72_4 : FieldAt Try.prog 72 4 4 := FieldAt.of (i := 4) Try.underlying72 rfl ty5 (by decide)
instance fo72_4 : FieldOf Try.prog 72 4 4 false 1 := FieldOf.of (i := 4) Try.underlying72 rfl ty5
instance fa72_5 : FieldAt Try.prog 72 5 5 := FieldAt.of (i := 5) Try.underlying72 rfl ty5 (by decide)
instance fo72_5 : FieldOf Try.prog 72 5 5 false 1 := FieldOf.of (i := 5) Try.underlying72 rfl ty5
instance fa72_6 : FieldAt Try.prog 72 6 6 := FieldAt.of (i := 6) Try.underlying72 rfl ty66 (by decide)
instance fo72_6 : FieldOf Try.prog 72 6 6 false 1 := FieldOf.of (i := 6) Try.underlying72 rfl ty66
instance fa72_7 : FieldAt Try.prog 72 7 7 := FieldAt.of (i := 7) Try.underlying72 rfl ty67 (by decide)
instance fo72_7 : FieldOf Try.prog 72 7 7 false 1 := FieldOf.of (i := 7) Try.underlying72 rfl ty67
instance fa72_8 : FieldAt Try.prog 72 8 8 := FieldAt.of (i := 8) Try.underlying72 rfl ty68 (by decide)
instance fo72_8 : FieldOf Try.prog 72 8 8 false 1 := FieldOf.of (i := 8) Try.underlying72 rfl ty68
instance fa72_9 : FieldAt Try.prog 72 9 9 := FieldAt.of (i := 9) Try.underlying72 rfl ty69 (by decide)
instance fo72_9 : FieldOf Try.prog 72 9 9 false 1 := FieldOf.of (i := 9) Try.underlying72 rfl ty69
instance fa72_10 : FieldAt Try.prog 72 10 10 := FieldAt.of (i := 10) Try.underlying72 rfl ty70 (by decide)
instance fo72_10 : FieldOf Try.prog 72 10 10 false 1 := FieldOf.of (i := 10) Try.underlying72 rfl ty70
instance bt72 : BuildT Try.prog 72 [(0, 1), (1, 1), (2, 1), (3, 1), (4, 1), (5, 1), (6, 1), (7, 1), (8, 1), (9, 1), (10, 1)] [Value.int IntKind.u64 0, Value.int IntKind.u64 0, Value.int IntKind.u32 0, Value.int IntKind.u8 0,
          Value.int IntKind.u8 0, Value.int IntKind.u8 0, Value.int IntKind.u8 0, Value.nilFunc, Value.pointer none,
          Value.int IntKind.i32 0, Value.int IntKind.i32 0] := BuildT.of Try.underlying72 Try.zeroValue72 (fun w => by kernel_rfl) (by decide)
instance fe40 : FlatEq Try.prog 40 [(0, .int .i64), (1, .int .i64), (2, .str), (3, .str), (4, .str), (5, .int .i64), (6, .int .i64)] := ⟨by kernel_rfl, by kernel_rfl, _, Try.underlying40, flat_cons (by decide) rfl Try.underlying3 (flat_cons (by decide) rfl Try.underlying3 (flat_cons (by decide) rfl Try.underlying9 (flat_cons (by decide) rfl Try.underlying9 (flat_cons (by decide) rfl Try.underlying9 (flat_cons (by decide) rfl Try.underlying3 (flat_cons (by decide) rfl Try.underlying3 (flat_nil)))))))⟩
instance fe45 : FlatEq Try.prog 45 [(0, .int .i64), (1, .int .i64), (2, .str), (3, .str), (4, .str), (5, .int .i64), (6, .int .i64)] := ⟨by kernel_rfl, by kernel_rfl, _, Try.underlying45, flat_cons (by decide) rfl Try.underlying3 (flat_cons (by decide) rfl Try.underlying3 (flat_cons (by decide) rfl Try.underlying9 (flat_cons (by decide) rfl Try.underlying9 (flat_cons (by decide) rfl Try.underlying9 (flat_cons (by decide) rfl Try.underlying3 (flat_cons (by decide) rfl Try.underlying3 (flat_nil)))))))⟩
instance en2 : Ent Try.prog 2 := ⟨Try.call2⟩
instance en3 : Ent Try.prog 3 := ⟨Try.call3⟩
instance en4 : Ent Try.prog 4 := ⟨Try.call4⟩
instance en5 : Ent Try.prog 5 := ⟨Try.call5⟩
instance en6 : Ent Try.prog 6 := ⟨Try.call6⟩
instance en7 : Ent Try.prog 7 := ⟨Try.call7⟩
instance en8 : Ent Try.prog 8 := ⟨Try.call8⟩
instance en9 : Ent Try.prog 9 := ⟨Try.call9⟩
instance en10 : Ent Try.prog 10 := ⟨Try.call10⟩
instance en11 : Ent Try.prog 11 := ⟨Try.call11⟩
instance en12 : Ent Try.prog 12 := ⟨Try.call12⟩
instance en13 : Ent Try.prog 13 := ⟨Try.call13⟩
instance en14 : Ent Try.prog 14 := ⟨Try.call14⟩
instance en15 : Ent Try.prog 15 := ⟨Try.call15⟩
instance en16 : Ent Try.prog 16 := ⟨Try.call16⟩
instance en17 : Ent Try.prog 17 := ⟨Try.call17⟩
instance en18 : Ent Try.prog 18 := ⟨Try.call18⟩
instance en19 : Ent Try.prog 19 := ⟨Try.call19⟩
instance en20 : Ent Try.prog 20 := ⟨Try.call20⟩
instance en21 : Ent Try.prog 21 := ⟨Try.call21⟩
end Go.Proofs.Ytafpjnkfbfkjcaa
