import Derived.Test.YtepmllodaoanmaaProg
import Derived.Test.YtepmllodaoanmaaAx1
import Derived.KernelRfl
set_option linter.unusedVariables false
set_option maxRecDepth 100000
namespace Go.Proofs.Ytepmllodaoanmaa
open Go Go.AX
instance ty0 : Ty Try.prog 0 (TypeDesc.tuple #[]) 1 0 (Value.tuple #[]) := ⟨Try.underlying0, Try.t0, rfl, rfl, rfl, rfl⟩
instance ty1 : Ty Try.prog 1 (TypeDesc.func #[] #[] false) 1 8 Value.nilFunc := ⟨Try.underlying1, Try.t1, rfl, rfl, rfl, rfl⟩
instance ty2 : Ty Try.prog 2 (TypeDesc.int IntKind.i64) 1 8 (Value.int IntKind.i64 0) := ⟨Try.underlying2, Try.t2, rfl, rfl, rfl, rfl⟩
instance ty3 : Ty Try.prog 3 (TypeDesc.int IntKind.i64) 1 8 (Value.int IntKind.i64 0) := ⟨Try.underlying3, Try.t3, rfl, rfl, rfl, rfl⟩
instance ty4 : Ty Try.prog 4 TypeDesc.bool 1 1 (Value.bool false) := ⟨Try.underlying4, Try.t4, rfl, rfl, rfl, rfl⟩
instance ty5 : Ty Try.prog 5 (TypeDesc.int IntKind.u8) 1 1 (Value.int IntKind.u8 0) := ⟨Try.underlying5, Try.t5, rfl, rfl, rfl, rfl⟩
instance ty6 : Ty Try.prog 6 (TypeDesc.int IntKind.u8) 1 1 (Value.int IntKind.u8 0) := ⟨Try.underlying6, Try.t6, rfl, rfl, rfl, rfl⟩
instance ty7 : Ty Try.prog 7 (TypeDesc.struct
      #[{ name := "x", type := 2, offset := 0, embedded := false, tag := "", pkgPath := "runtime", byteOffset := 0 },
        { name := "y", type := 3, offset := 1, embedded := false, tag := "", pkgPath := "runtime", byteOffset := 8 },
        { name := "signed", type := 4, offset := 2, embedded := false, tag := "", pkgPath := "runtime",
          byteOffset := 16 },
        { name := "code", type := 6, offset := 3, embedded := false, tag := "", pkgPath := "runtime",
          byteOffset := 17 }]) 4 24 (Value.agg #[Value.int IntKind.i64 0, Value.int IntKind.i64 0, Value.bool false, Value.int IntKind.u8 0]) := ⟨Try.underlying7, Try.t7, rfl, rfl, rfl, rfl⟩
instance ty8 : Ty Try.prog 8 (TypeDesc.struct
      #[{ name := "x", type := 2, offset := 0, embedded := false, tag := "", pkgPath := "runtime", byteOffset := 0 },
        { name := "y", type := 3, offset := 1, embedded := false, tag := "", pkgPath := "runtime", byteOffset := 8 },
        { name := "signed", type := 4, offset := 2, embedded := false, tag := "", pkgPath := "runtime",
          byteOffset := 16 },
        { name := "code", type := 6, offset := 3, embedded := false, tag := "", pkgPath := "runtime",
          byteOffset := 17 }]) 4 24 (Value.agg #[Value.int IntKind.i64 0, Value.int IntKind.i64 0, Value.bool false, Value.int IntKind.u8 0]) := ⟨Try.underlying8, Try.t8, rfl, rfl, rfl, rfl⟩
instance ty9 : Ty Try.prog 9 TypeDesc.string 1 16 (Value.string { data := #[] }) := ⟨Try.underlying9, Try.t9, rfl, rfl, rfl, rfl⟩
instance ty10 : Ty Try.prog 10 TypeDesc.string 1 16 (Value.string { data := #[] }) := ⟨Try.underlying10, Try.t10, rfl, rfl, rfl, rfl⟩
instance ty11 : Ty Try.prog 11 TypeDesc.string 1 16 (Value.string { data := #[] }) := ⟨Try.underlying11, Try.t11, rfl, rfl, rfl, rfl⟩
instance ty12 : Ty Try.prog 12 (TypeDesc.int IntKind.u64) 1 8 (Value.int IntKind.u64 0) := ⟨Try.underlying12, Try.t12, rfl, rfl, rfl, rfl⟩
instance ty13 : Ty Try.prog 13 (TypeDesc.struct
      #[{ name := "msg", type := 9, offset := 0, embedded := false, tag := "", pkgPath := "runtime", byteOffset := 0 },
        { name := "addr", type := 12, offset := 1, embedded := false, tag := "", pkgPath := "runtime",
          byteOffset := 16 }]) 2 24 (Value.agg #[Value.string { data := #[] }, Value.int IntKind.u64 0]) := ⟨Try.underlying13, Try.t13, rfl, rfl, rfl, rfl⟩
instance ty14 : Ty Try.prog 14 (TypeDesc.struct
      #[{ name := "msg", type := 9, offset := 0, embedded := false, tag := "", pkgPath := "runtime", byteOffset := 0 },
        { name := "addr", type := 12, offset := 1, embedded := false, tag := "", pkgPath := "runtime",
          byteOffset := 16 }]) 2 24 (Value.agg #[Value.string { data := #[] }, Value.int IntKind.u64 0]) := ⟨Try.underlying14, Try.t14, rfl, rfl, rfl, rfl⟩
instance ty15 : Ty Try.prog 15 (TypeDesc.pointer 108) 1 8 (Value.pointer none) := ⟨Try.underlying15, Try.t15, rfl, rfl, rfl, rfl⟩
instance ty16 : Ty Try.prog 16 (TypeDesc.pointer 111) 1 8 (Value.pointer none) := ⟨Try.underlying16, Try.t16, rfl, rfl, rfl, rfl⟩
instance ty17 : Ty Try.prog 17 (TypeDesc.pointer 121) 1 8 (Value.pointer none) := ⟨Try.underlying17, Try.t17, rfl, rfl, rfl, rfl⟩
instance ty18 : Ty Try.prog 18 (TypeDesc.struct
      #[{ name := "typ", type := 17, offset := 0, embedded := false, tag := "", pkgPath := "internal/runtime/maps",
          byteOffset := 0 }]) 1 8 (Value.agg #[Value.pointer none]) := ⟨Try.underlying18, Try.t18, rfl, rfl, rfl, rfl⟩
instance ty19 : Ty Try.prog 19 (TypeDesc.struct
      #[{ name := "typ", type := 17, offset := 0, embedded := false, tag := "", pkgPath := "internal/runtime/maps",
          byteOffset := 0 }]) 1 8 (Value.agg #[Value.pointer none]) := ⟨Try.underlying19, Try.t19, rfl, rfl, rfl, rfl⟩
instance ty20 : Ty Try.prog 20 (TypeDesc.interface #[]) 1 16 Value.nilIface := ⟨Try.underlying20, Try.t20, rfl, rfl, rfl, rfl⟩
instance ty21 : Ty Try.prog 21 (TypeDesc.int IntKind.i32) 1 4 (Value.int IntKind.i32 0) := ⟨Try.underlying21, Try.t21, rfl, rfl, rfl, rfl⟩
instance ty22 : Ty Try.prog 22 (TypeDesc.slice 24) 1 24 (Value.slice none 0 0) := ⟨Try.underlying22, Try.t22, rfl, rfl, rfl, rfl⟩
instance ty23 : Ty Try.prog 23 (TypeDesc.struct
      #[{ name := "Kind", type := 3, offset := 0, embedded := false, tag := "", pkgPath := "", byteOffset := 0 },
        { name := "Name", type := 9, offset := 1, embedded := false, tag := "", pkgPath := "", byteOffset := 8 },
        { name := "Lo", type := 3, offset := 2, embedded := false, tag := "", pkgPath := "", byteOffset := 24 },
        { name := "Hi", type := 3, offset := 3, embedded := false, tag := "", pkgPath := "", byteOffset := 32 },
        { name := "Opt", type := 4, offset := 4, embedded := false, tag := "", pkgPath := "", byteOffset := 40 },
        { name := "L", type := 22, offset := 5, embedded := false, tag := "", pkgPath := "", byteOffset := 48 }]) 6 72 (Value.agg
        #[Value.int IntKind.i64 0, Value.string { data := #[] }, Value.int IntKind.i64 0, Value.int IntKind.i64 0,
          Value.bool false, Value.slice none 0 0]) := ⟨Try.underlying23, Try.t23, rfl, rfl, rfl, rfl⟩
instance ty24 : Ty Try.prog 24 (TypeDesc.struct
      #[{ name := "Kind", type := 3, offset := 0, embedded := false, tag := "", pkgPath := "", byteOffset := 0 },
        { name := "Name", type := 9, offset := 1, embedded := false, tag := "", pkgPath := "", byteOffset := 8 },
        { name := "Lo", type := 3, offset := 2, embedded := false, tag := "", pkgPath := "", byteOffset := 24 },
        { name := "Hi", type := 3, offset := 3, embedded := false, tag := "", pkgPath := "", byteOffset := 32 },
        { name := "Opt", type := 4, offset := 4, embedded := false, tag := "", pkgPath := "", byteOffset := 40 },
        { name := "L", type := 22, offset := 5, embedded := false, tag := "", pkgPath := "", byteOffset := 48 }]) 6 72 (Value.agg
        #[Value.int IntKind.i64 0, Value.string { data := #[] }, Value.int IntKind.i64 0, Value.int IntKind.i64 0,
          Value.bool false, Value.slice none 0 0]) := ⟨Try.underlying24, Try.t24, rfl, rfl, rfl, rfl⟩
instance ty25 : Ty Try.prog 25 (TypeDesc.slice 5) 1 24 (Value.slice none 0 0) := ⟨Try.underlying25, Try.t25, rfl, rfl, rfl, rfl⟩
instance ty26 : Ty Try.prog 26 (TypeDesc.slice 28) 1 24 (Value.slice none 0 0) := ⟨Try.underlying26, Try.t26, rfl, rfl, rfl, rfl⟩
instance ty27 : Ty Try.prog 27 (TypeDesc.struct
      #[{ name := "Kind", type := 3, offset := 0, embedded := false, tag := "", pkgPath := "", byteOffset := 0 },
        { name := "N", type := 3, offset := 1, embedded := false, tag := "", pkgPath := "", byteOffset := 8 },
        { name := "B", type := 25, offset := 2, embedded := false, tag := "", pkgPath := "", byteOffset := 16 },
        { name := "Set", type := 4, offset := 3, embedded := false, tag := "", pkgPath := "", byteOffset := 40 },
        { name := "L", type := 26, offset := 4, embedded := false, tag := "", pkgPath := "", byteOffset := 48 }]) 5 72 (Value.agg
        #[Value.int IntKind.i64 0, Value.int IntKind.i64 0, Value.slice none 0 0, Value.bool false,
          Value.slice none 0 0]) := ⟨Try.underlying27, Try.t27, rfl, rfl, rfl, rfl⟩
instance ty28 : Ty Try.prog 28 (TypeDesc.struct
      #[{ name := "Kind", type := 3, offset := 0, embedded := false, tag := "", pkgPath := "", byteOffset := 0 },
        { name := "N", type := 3, offset := 1, embedded := false, tag := "", pkgPath := "", byteOffset := 8 },
        { name := "B", type := 25, offset := 2, embedded := false, tag := "", pkgPath := "", byteOffset := 16 },
        { name := "Set", type := 4, offset := 3, embedded := false, tag := "", pkgPath := "", byteOffset := 40 },
        { name := "L", type := 26, offset := 4, embedded := false, tag := "", pkgPath := "", byteOffset := 48 }]) 5 72 (Value.agg
        #[Value.int IntKind.i64 0, Value.int IntKind.i64 0, Value.slice none 0 0, Value.bool false,
          Value.slice none 0 0]) := ⟨Try.underlying28, Try.t28, rfl, rfl, rfl, rfl⟩
instance ty29 : Ty Try.prog 29 (TypeDesc.func #[24] #[4] false) 1 8 Value.nilFunc := ⟨Try.underlying29, Try.t29, rfl, rfl, rfl, rfl⟩
instance ty30 : Ty Try.prog 30 (TypeDesc.func #[28] #[4] false) 1 8 Value.nilFunc := ⟨Try.underlying30, Try.t30, rfl, rfl, rfl, rfl⟩
instance ty31 : Ty Try.prog 31 (TypeDesc.func #[] #[4] false) 1 8 Value.nilFunc := ⟨Try.underlying31, Try.t31, rfl, rfl, rfl, rfl⟩
instance ty32 : Ty Try.prog 32 (TypeDesc.int IntKind.i64) 1 8 (Value.int IntKind.i64 0) := ⟨Try.underlying32, Try.t32, rfl, rfl, rfl, rfl⟩
instance ty33 : Ty Try.prog 33 (TypeDesc.tuple #[4, 32]) 1 0 (Value.tuple #[Value.bool false, Value.int IntKind.i64 0]) := ⟨Try.underlying33, Try.t33, rfl, rfl, rfl, rfl⟩
instance ty34 : Ty Try.prog 34 (TypeDesc.func #[24, 28] #[4, 32] false) 1 8 Value.nilFunc := ⟨Try.underlying34, Try.t34, rfl, rfl, rfl, rfl⟩
instance ty35 : Ty Try.prog 35 (TypeDesc.func #[24] #[32] false) 1 8 Value.nilFunc := ⟨Try.underlying35, Try.t35, rfl, rfl, rfl, rfl⟩
instance ty36 : Ty Try.prog 36 (TypeDesc.tuple #[25, 32]) 1 0 (Value.tuple #[Value.slice none 0 0, Value.int IntKind.i64 0]) := ⟨Try.underlying36, Try.t36, rfl, rfl, rfl, rfl⟩
instance ty37 : Ty Try.prog 37 (TypeDesc.func #[24, 28] #[25, 32] false) 1 8 Value.nilFunc := ⟨Try.underlying37, Try.t37, rfl, rfl, rfl, rfl⟩
instance ty38 : Ty Try.prog 38 (TypeDesc.func #[24, 28] #[4] false) 1 8 Value.nilFunc := ⟨Try.underlying38, Try.t38, rfl, rfl, rfl, rfl⟩
instance ty39 : Ty Try.prog 39 (TypeDesc.slice 42) 1 24 (Value.slice none 0 0) := ⟨Try.underlying39, Try.t39, rfl, rfl, rfl, rfl⟩
instance ty40 : Ty Try.prog 40 (TypeDesc.tuple #[39, 32]) 1 0 (Value.tuple #[Value.slice none 0 0, Value.int IntKind.i64 0]) := ⟨Try.underlying40, Try.t40, rfl, rfl, rfl, rfl⟩
instance ty41 : Ty Try.prog 41 (TypeDesc.func #[25] #[39, 32] false) 1 8 Value.nilFunc := ⟨Try.underlying41, Try.t41, rfl, rfl, rfl, rfl⟩
instance ty42 : Ty Try.prog 42 (TypeDesc.array 4 3) 4 32 (Value.agg #[Value.int IntKind.i64 0, Value.int IntKind.i64 0, Value.int IntKind.i64 0, Value.int IntKind.i64 0]) := ⟨Try.underlying42, Try.t42, rfl, rfl, rfl, rfl⟩
instance ty43 : Ty Try.prog 43 (TypeDesc.func #[25] #[4] false) 1 8 Value.nilFunc := ⟨Try.underlying43, Try.t43, rfl, rfl, rfl, rfl⟩
instance ty44 : Ty Try.prog 44 (TypeDesc.func #[28, 28] #[4] false) 1 8 Value.nilFunc := ⟨Try.underlying44, Try.t44, rfl, rfl, rfl, rfl⟩
instance ty45 : Ty Try.prog 45 (TypeDesc.tuple #[3, 3, 32]) 1 0 (Value.tuple #[Value.int IntKind.i64 0, Value.int IntKind.i64 0, Value.int IntKind.i64 0]) := ⟨Try.underlying45, Try.t45, rfl, rfl, rfl, rfl⟩
instance ty46 : Ty Try.prog 46 (TypeDesc.func #[24] #[3, 3, 32] false) 1 8 Value.nilFunc := ⟨Try.underlying46, Try.t46, rfl, rfl, rfl, rfl⟩
instance ty47 : Ty Try.prog 47 (TypeDesc.func #[24, 28, 28] #[4] false) 1 8 Value.nilFunc := ⟨Try.underlying47, Try.t47, rfl, rfl, rfl, rfl⟩
instance ty48 : Ty Try.prog 48 (TypeDesc.tuple #[28, 32]) 1 0 (Value.tuple
        #[Value.agg
            #[Value.int IntKind.i64 0, Value.int IntKind.i64 0, Value.slice none 0 0, Value.bool false,
              Value.slice none 0 0],
          Value.int IntKind.i64 0]) := ⟨Try.underlying48, Try.t48, rfl, rfl, rfl, rfl⟩
instance ty49 : Ty Try.prog 49 (TypeDesc.func #[24] #[28, 32] false) 1 8 Value.nilFunc := ⟨Try.underlying49, Try.t49, rfl, rfl, rfl, rfl⟩
instance ty50 : Ty Try.prog 50 (TypeDesc.func #[22] #[3] false) 1 8 Value.nilFunc := ⟨Try.underlying50, Try.t50, rfl, rfl, rfl, rfl⟩
instance ty51 : Ty Try.prog 51 (TypeDesc.func #[26] #[3] false) 1 8 Value.nilFunc := ⟨Try.underlying51, Try.t51, rfl, rfl, rfl, rfl⟩
instance ty52 : Ty Try.prog 52 (TypeDesc.tuple #[3, 3]) 1 0 (Value.tuple #[Value.int IntKind.i64 0, Value.int IntKind.i64 0]) := ⟨Try.underlying52, Try.t52, rfl, rfl, rfl, rfl⟩
instance ty53 : Ty Try.prog 53 (TypeDesc.func #[24] #[3, 3] false) 1 8 Value.nilFunc := ⟨Try.underlying53, Try.t53, rfl, rfl, rfl, rfl⟩
instance ty54 : Ty Try.prog 54 (TypeDesc.func #[24] #[3] false) 1 8 Value.nilFunc := ⟨Try.underlying54, Try.t54, rfl, rfl, rfl, rfl⟩
instance ty55 : Ty Try.prog 55 (TypeDesc.func #[24, 28] #[32] false) 1 8 Value.nilFunc := ⟨Try.underlying55, Try.t55, rfl, rfl, rfl, rfl⟩
instance ty56 : Ty Try.prog 56 (TypeDesc.pointer 58) 1 8 (Value.pointer none) := ⟨Try.underlying56, Try.t56, rfl, rfl, rfl, rfl⟩
instance ty57 : Ty Try.prog 57 (TypeDesc.struct
      #[{ name := "full", type := 4, offset := 0, embedded := false, tag := "", pkgPath := "wireglass/cert",
          byteOffset := 0 }]) 1 1 (Value.agg #[Value.bool false]) := ⟨Try.underlying57, Try.t57, rfl, rfl, rfl, rfl⟩
instance ty58 : Ty Try.prog 58 (TypeDesc.struct
      #[{ name := "full", type := 4, offset := 0, embedded := false, tag := "", pkgPath := "wireglass/cert",
          byteOffset := 0 }]) 1 1 (Value.agg #[Value.bool false]) := ⟨Try.underlying58, Try.t58, rfl, rfl, rfl, rfl⟩
instance ty59 : Ty Try.prog 59 (TypeDesc.func #[24, 28] #[25] false) 1 8 Value.nilFunc := ⟨Try.underlying59, Try.t59, rfl, rfl, rfl, rfl⟩
instance ty60 : Ty Try.prog 60 (TypeDesc.func #[28] #[3] false) 1 8 Value.nilFunc := ⟨Try.underlying60, Try.t60, rfl, rfl, rfl, rfl⟩
instance ty61 : Ty Try.prog 61 (TypeDesc.pointer 63) 1 8 (Value.pointer none) := ⟨Try.underlying61, Try.t61, rfl, rfl, rfl, rfl⟩
instance ty62 : Ty Try.prog 62 (TypeDesc.struct
      #[{ name := "b", type := 25, offset := 0, embedded := false, tag := "", pkgPath := "wireglass/cert",
          byteOffset := 0 },
        { name := "at", type := 3, offset := 1, embedded := false, tag := "", pkgPath := "wireglass/cert",
          byteOffset := 24 },
        { name := "full", type := 4, offset := 2, embedded := false, tag := "", pkgPath := "wireglass/cert",
          byteOffset := 32 }]) 3 40 (Value.agg #[Value.slice none 0 0, Value.int IntKind.i64 0, Value.bool false]) := ⟨Try.underlying62, Try.t62, rfl, rfl, rfl, rfl⟩
instance ty63 : Ty Try.prog 63 (TypeDesc.struct
      #[{ name := "b", type := 25, offset := 0, embedded := false, tag := "", pkgPath := "wireglass/cert",
          byteOffset := 0 },
        { name := "at", type := 3, offset := 1, embedded := false, tag := "", pkgPath := "wireglass/cert",
          byteOffset := 24 },
        { name := "full", type := 4, offset := 2, embedded := false, tag := "", pkgPath := "wireglass/cert",
          byteOffset := 32 }]) 3 40 (Value.agg #[Value.slice none 0 0, Value.int IntKind.i64 0, Value.bool false]) := ⟨Try.underlying63, Try.t63, rfl, rfl, rfl, rfl⟩
instance ty64 : Ty Try.prog 64 (TypeDesc.func #[24, 28] #[] false) 1 8 Value.nilFunc := ⟨Try.underlying64, Try.t64, rfl, rfl, rfl, rfl⟩
instance ty65 : Ty Try.prog 65 (TypeDesc.func #[25, 24, 28] #[25] false) 1 8 Value.nilFunc := ⟨Try.underlying65, Try.t65, rfl, rfl, rfl, rfl⟩
instance ty66 : Ty Try.prog 66 (TypeDesc.tuple #[39, 4]) 1 0 (Value.tuple #[Value.slice none 0 0, Value.bool false]) := ⟨Try.underlying66, Try.t66, rfl, rfl, rfl, rfl⟩
instance ty67 : Ty Try.prog 67 (TypeDesc.func #[39, 25, 3] #[39, 4] false) 1 8 Value.nilFunc := ⟨Try.underlying67, Try.t67, rfl, rfl, rfl, rfl⟩
instance ty68 : Ty Try.prog 68 (TypeDesc.func #[25, 25] #[4] false) 1 8 Value.nilFunc := ⟨Try.underlying68, Try.t68, rfl, rfl, rfl, rfl⟩
instance ty69 : Ty Try.prog 69 (TypeDesc.func #[26, 26, 44] #[4] false) 1 8 Value.nilFunc := ⟨Try.underlying69, Try.t69, rfl, rfl, rfl, rfl⟩
instance ty70 : Ty Try.prog 70 (TypeDesc.struct
      #[{ name := "least", type := 3, offset := 0, embedded := false, tag := "", pkgPath := "wireglass/cert",
          byteOffset := 0 },
        { name := "most", type := 3, offset := 1, embedded := false, tag := "", pkgPath := "wireglass/cert",
          byteOffset := 8 }]) 2 16 (Value.agg #[Value.int IntKind.i64 0, Value.int IntKind.i64 0]) := ⟨Try.underlying70, Try.t70, rfl, rfl, rfl, rfl⟩
instance ty71 : Ty Try.prog 71 (TypeDesc.struct
      #[{ name := "least", type := 3, offset := 0, embedded := false, tag := "", pkgPath := "wireglass/cert",
          byteOffset := 0 },
        { name := "most", type := 3, offset := 1, embedded := false, tag := "", pkgPath := "wireglass/cert",
          byteOffset := 8 }]) 2 16 (Value.agg #[Value.int IntKind.i64 0, Value.int IntKind.i64 0]) := ⟨Try.underlying71, Try.t71, rfl, rfl, rfl, rfl⟩
instance ty72 : Ty Try.prog 72 (TypeDesc.func #[24] #[71] false) 1 8 Value.nilFunc := ⟨Try.underlying72, Try.t72, rfl, rfl, rfl, rfl⟩
instance ty73 : Ty Try.prog 73 (TypeDesc.int IntKind.i64) 1 8 (Value.int IntKind.i64 0) := ⟨Try.underlying73, Try.t73, rfl, rfl, rfl, rfl⟩
instance ty74 : Ty Try.prog 74 (TypeDesc.tuple #[28, 4]) 1 0 (Value.tuple
        #[Value.agg
            #[Value.int IntKind.i64 0, Value.int IntKind.i64 0, Value.slice none 0 0, Value.bool false,
              Value.slice none 0 0],
          Value.bool false]) := ⟨Try.underlying74, Try.t74, rfl, rfl, rfl, rfl⟩
instance ty75 : Ty Try.prog 75 (TypeDesc.func #[24, 76] #[28, 4] false) 1 8 Value.nilFunc := ⟨Try.underlying75, Try.t75, rfl, rfl, rfl, rfl⟩
instance ty76 : Ty Try.prog 76 (TypeDesc.pointer 73) 1 8 (Value.pointer none) := ⟨Try.underlying76, Try.t76, rfl, rfl, rfl, rfl⟩
instance ty77 : Ty Try.prog 77 (TypeDesc.func #[24] #[28] false) 1 8 Value.nilFunc := ⟨Try.underlying77, Try.t77, rfl, rfl, rfl, rfl⟩
instance ty78 : Ty Try.prog 78 (TypeDesc.func #[26, 30] #[4] false) 1 8 Value.nilFunc := ⟨Try.underlying78, Try.t78, rfl, rfl, rfl, rfl⟩
instance ty79 : Ty Try.prog 79 (TypeDesc.array 8 5) 8 8 (Value.agg
        #[Value.int IntKind.u8 0, Value.int IntKind.u8 0, Value.int IntKind.u8 0, Value.int IntKind.u8 0,
          Value.int IntKind.u8 0, Value.int IntKind.u8 0, Value.int IntKind.u8 0, Value.int IntKind.u8 0]) := ⟨Try.underlying79, Try.t79, rfl, rfl, rfl, rfl⟩
instance ty80 : Ty Try.prog 80 (TypeDesc.func #[] #[79] false) 1 8 Value.nilFunc := ⟨Try.underlying80, Try.t80, rfl, rfl, rfl, rfl⟩
instance ty81 : Ty Try.prog 81 (TypeDesc.func #[5, 25] #[25] false) 1 8 Value.nilFunc := ⟨Try.underlying81, Try.t81, rfl, rfl, rfl, rfl⟩
instance ty82 : Ty Try.prog 82 (TypeDesc.array 8 59) 8 64 (Value.agg
        #[Value.nilFunc, Value.nilFunc, Value.nilFunc, Value.nilFunc, Value.nilFunc, Value.nilFunc, Value.nilFunc,
          Value.nilFunc]) := ⟨Try.underlying82, Try.t82, rfl, rfl, rfl, rfl⟩
instance ty83 : Ty Try.prog 83 (TypeDesc.func #[] #[82] false) 1 8 Value.nilFunc := ⟨Try.underlying83, Try.t83, rfl, rfl, rfl, rfl⟩
instance ty84 : Ty Try.prog 84 (TypeDesc.func #[24, 3] #[3] false) 1 8 Value.nilFunc := ⟨Try.underlying84, Try.t84, rfl, rfl, rfl, rfl⟩
instance ty85 : Ty Try.prog 85 (TypeDesc.func #[3] #[25] false) 1 8 Value.nilFunc := ⟨Try.underlying85, Try.t85, rfl, rfl, rfl, rfl⟩
instance ty86 : Ty Try.prog 86 (TypeDesc.func #[3, 3] #[] false) 1 8 Value.nilFunc := ⟨Try.underlying86, Try.t86, rfl, rfl, rfl, rfl⟩
instance ty87 : Ty Try.prog 87 (TypeDesc.func #[3] #[3] false) 1 8 Value.nilFunc := ⟨Try.underlying87, Try.t87, rfl, rfl, rfl, rfl⟩
instance ty88 : Ty Try.prog 88 (TypeDesc.func #[25, 3, 3] #[25] false) 1 8 Value.nilFunc := ⟨Try.underlying88, Try.t88, rfl, rfl, rfl, rfl⟩
instance ty89 : Ty Try.prog 89 (TypeDesc.tuple #[3, 3, 3, 4]) 1 0 (Value.tuple #[Value.int IntKind.i64 0, Value.int IntKind.i64 0, Value.int IntKind.i64 0, Value.bool false]) := ⟨Try.underlying89, Try.t89, rfl, rfl, rfl, rfl⟩
instance ty90 : Ty Try.prog 90 (TypeDesc.func #[25] #[3, 3, 3, 4] false) 1 8 Value.nilFunc := ⟨Try.underlying90, Try.t90, rfl, rfl, rfl, rfl⟩
instance ty91 : Ty Try.prog 91 (TypeDesc.func #[3] #[4] false) 1 8 Value.nilFunc := ⟨Try.underlying91, Try.t91, rfl, rfl, rfl, rfl⟩
instance ty92 : Ty Try.prog 92 (TypeDesc.func #[71] #[71] false) 1 8 Value.nilFunc := ⟨Try.underlying92, Try.t92, rfl, rfl, rfl, rfl⟩
instance ty93 : Ty Try.prog 93 (TypeDesc.func #[3, 3] #[71] false) 1 8 Value.nilFunc := ⟨Try.underlying93, Try.t93, rfl, rfl, rfl, rfl⟩
instance ty94 : Ty Try.prog 94 (TypeDesc.func #[24] #[] false) 1 8 Value.nilFunc := ⟨Try.underlying94, Try.t94, rfl, rfl, rfl, rfl⟩
instance ty95 : Ty Try.prog 95 (TypeDesc.func #[26, 30] #[3] false) 1 8 Value.nilFunc := ⟨Try.underlying95, Try.t95, rfl, rfl, rfl, rfl⟩
instance ty96 : Ty Try.prog 96 (TypeDesc.func #[24, 3, 3] #[4] false) 1 8 Value.nilFunc := ⟨Try.underlying96, Try.t96, rfl, rfl, rfl, rfl⟩
instance ty97 : Ty Try.prog 97 (TypeDesc.func #[9] #[4] false) 1 8 Value.nilFunc := ⟨Try.underlying97, Try.t97, rfl, rfl, rfl, rfl⟩
instance ty98 : Ty Try.prog 98 (TypeDesc.int IntKind.u64) 1 8 (Value.int IntKind.u64 0) := ⟨Try.underlying98, Try.t98, rfl, rfl, rfl, rfl⟩
instance ty99 : Ty Try.prog 99 (TypeDesc.func #[25, 3, 3, 3, 4] #[25, 32] false) 1 8 Value.nilFunc := ⟨Try.underlying99, Try.t99, rfl, rfl, rfl, rfl⟩
instance ty100 : Ty Try.prog 100 (TypeDesc.map 9 4) 1 8 (Value.map none) := ⟨Try.underlying100, Try.t100, rfl, rfl, rfl, rfl⟩
instance ty101 : Ty Try.prog 101 (TypeDesc.func #[25, 3, 3, 4] #[32] false) 1 8 Value.nilFunc := ⟨Try.underlying101, Try.t101, rfl, rfl, rfl, rfl⟩
instance ty102 : Ty Try.prog 102 (TypeDesc.func #[3, 3] #[3] false) 1 8 Value.nilFunc := ⟨Try.underlying102, Try.t102, rfl, rfl, rfl, rfl⟩
instance ty103 : Ty Try.prog 103 (TypeDesc.func #[25, 104] #[4] false) 1 8 Value.nilFunc := ⟨Try.underlying103, Try.t103, rfl, rfl, rfl, rfl⟩
instance ty104 : Ty Try.prog 104 (TypeDesc.func #[5] #[4] false) 1 8 Value.nilFunc := ⟨Try.underlying104, Try.t104, rfl, rfl, rfl, rfl⟩
instance ty105 : Ty Try.prog 105 (TypeDesc.func #[25, 104] #[3] false) 1 8 Value.nilFunc := ⟨Try.underlying105, Try.t105, rfl, rfl, rfl, rfl⟩
instance ty106 : Ty Try.prog 106 (TypeDesc.func #[] #[9] false) 1 8 Value.nilFunc := ⟨Try.underlying106, Try.t106, rfl, rfl, rfl, rfl⟩
instance ty107 : Ty Try.prog 107 (TypeDesc.struct
      #[{ name := "_interface", type := 17, offset := 0, embedded := false, tag := "", pkgPath := "runtime",
          byteOffset := 0 },
        { name := "concrete", type := 17, offset := 1, embedded := false, tag := "", pkgPath := "runtime",
          byteOffset := 8 },
        { name := "asserted", type := 17, offset := 2, embedded := false, tag := "", pkgPath := "runtime",
          byteOffset := 16 },
        { name := "missingMethod", type := 9, offset := 3, embedded := false, tag := "", pkgPath := "runtime",
          byteOffset := 24 }]) 4 40 (Value.agg #[Value.pointer none, Value.pointer none, Value.pointer none, Value.string { data := #[] }]) := ⟨Try.underlying107, Try.t107, rfl, rfl, rfl, rfl⟩
instance ty108 : Ty Try.prog 108 (TypeDesc.struct
      #[{ name := "_interface", type := 17, offset := 0, embedded := false, tag := "", pkgPath := "runtime",
          byteOffset := 0 },
        { name := "concrete", type := 17, offset := 1, embedded := false, tag := "", pkgPath := "runtime",
          byteOffset := 8 },
        { name := "asserted", type := 17, offset := 2, embedded := false, tag := "", pkgPath := "runtime",
          byteOffset := 16 },
        { name := "missingMethod", type := 9, offset := 3, embedded := false, tag := "", pkgPath := "runtime",
          byteOffset := 24 }]) 4 40 (Value.agg #[Value.pointer none, Value.pointer none, Value.pointer none, Value.string { data := #[] }]) := ⟨Try.underlying108, Try.t108, rfl, rfl, rfl, rfl⟩
instance ty109 : Ty Try.prog 109 (TypeDesc.array 0 16) 0 0 (Value.agg #[]) := ⟨Try.underlying109, Try.t109, rfl, rfl, rfl, rfl⟩
instance ty110 : Ty Try.prog 110 (TypeDesc.struct
      #[{ name := "_", type := 109, offset := 0, embedded := false, tag := "", pkgPath := "runtime", byteOffset := 0 }]) 0 0 (Value.agg #[]) := ⟨Try.underlying110, Try.t110, rfl, rfl, rfl, rfl⟩
instance ty111 : Ty Try.prog 111 (TypeDesc.struct
      #[{ name := "_", type := 109, offset := 0, embedded := false, tag := "", pkgPath := "runtime", byteOffset := 0 }]) 0 0 (Value.agg #[]) := ⟨Try.underlying111, Try.t111, rfl, rfl, rfl, rfl⟩
instance ty112 : Ty Try.prog 112 (TypeDesc.func #[] #[3] false) 1 8 Value.nilFunc := ⟨Try.underlying112, Try.t112, rfl, rfl, rfl, rfl⟩
instance ty113 : Ty Try.prog 113 (TypeDesc.int IntKind.u32) 1 4 (Value.int IntKind.u32 0) := ⟨Try.underlying113, Try.t113, rfl, rfl, rfl, rfl⟩
instance ty114 : Ty Try.prog 114 (TypeDesc.int IntKind.u8) 1 1 (Value.int IntKind.u8 0) := ⟨Try.underlying114, Try.t114, rfl, rfl, rfl, rfl⟩
instance ty115 : Ty Try.prog 115 (TypeDesc.int IntKind.u8) 1 1 (Value.int IntKind.u8 0) := ⟨Try.underlying115, Try.t115, rfl, rfl, rfl, rfl⟩
instance ty116 : Ty Try.prog 116 (TypeDesc.func #[122, 122] #[4] false) 1 8 Value.nilFunc := ⟨Try.underlying116, Try.t116, rfl, rfl, rfl, rfl⟩
instance ty117 : Ty Try.prog 117 (TypeDesc.pointer 5) 1 8 (Value.pointer none) := ⟨Try.underlying117, Try.t117, rfl, rfl, rfl, rfl⟩
instance ty118 : Ty Try.prog 118 (TypeDesc.int IntKind.i32) 1 4 (Value.int IntKind.i32 0) := ⟨Try.underlying118, Try.t118, rfl, rfl, rfl, rfl⟩
instance ty119 : Ty Try.prog 119 (TypeDesc.int IntKind.i32) 1 4 (Value.int IntKind.i32 0) := ⟨Try.underlying119, Try.t119, rfl, rfl, rfl, rfl⟩
instance ty120 : Ty Try.prog 120 (TypeDesc.struct
      #[{ name := "Size_", type := 12, offset := 0, embedded := false, tag := "", pkgPath := "", byteOffset := 0 },
        { name := "PtrBytes", type := 12, offset := 1, embedded := false, tag := "", pkgPath := "", byteOffset := 8 },
        { name := "Hash", type := 113, offset := 2, embedded := false, tag := "", pkgPath := "", byteOffset := 16 },
        { name := "TFlag", type := 114, offset := 3, embedded := false, tag := "", pkgPath := "", byteOffset := 20 },
        { name := "Align_", type := 5, offset := 4, embedded := false, tag := "", pkgPath := "", byteOffset := 21 },
        { name := "FieldAlign_", type := 5, offset := 5, embedded := false, tag := "", pkgPath := "",
          byteOffset := 22 },
        { name := "Kind_", type := 115, offset := 6, embedded := false, tag := "", pkgPath := "", byteOffset := 23 },
        { name := "Equal", type := 116, offset := 7, embedded := false, tag := "", pkgPath := "", byteOffset := 24 },
        { name := "GCData", type := 117, offset := 8, embedded := false, tag := "", pkgPath := "", byteOffset := 32 },
        { name := "Str", type := 118, offset := 9, embedded := false, tag := "", pkgPath := "", byteOffset := 40 },
        { name := "PtrToThis", type := 119, offset := 10, embedded := false, tag := "", pkgPath := "",
          byteOffset := 44 }]) 11 48 (Value.agg
        #[Value.int IntKind.u64 0, Value.int IntKind.u64 0, Value.int IntKind.u32 0, Value.int IntKind.u8 0,
          Value.int IntKind.u8 0, Value.int IntKind.u8 0, Value.int IntKind.u8 0, Value.nilFunc, Value.pointer none,
          Value.int IntKind.i32 0, Value.int IntKind.i32 0]) := ⟨Try.underlying120, Try.t120, rfl, rfl, rfl, rfl⟩
instance ty121 : Ty Try.prog 121 (TypeDesc.struct
      #[{ name := "Size_", type := 12, offset := 0, embedded := false, tag := "", pkgPath := "", byteOffset := 0 },
        { name := "PtrBytes", type := 12, offset := 1, embedded := false, tag := "", pkgPath := "", byteOffset := 8 },
        { name := "Hash", type := 113, offset := 2, embedded := false, tag := "", pkgPath := "", byteOffset := 16 },
        { name := "TFlag", type := 114, offset := 3, embedded := false, tag := "", pkgPath := "", byteOffset := 20 },
        { name := "Align_", type := 5, offset := 4, embedded := false, tag := "", pkgPath := "", byteOffset := 21 },
        { name := "FieldAlign_", type := 5, offset := 5, embedded := false, tag := "", pkgPath := "",
          byteOffset := 22 },
        { name := "Kind_", type := 115, offset := 6, embedded := false, tag := "", pkgPath := "", byteOffset := 23 },
        { name := "Equal", type := 116, offset := 7, embedded := false, tag := "", pkgPath := "", byteOffset := 24 },
        { name := "GCData", type := 117, offset := 8, embedded := false, tag := "", pkgPath := "", byteOffset := 32 },
        { name := "Str", type := 118, offset := 9, embedded := false, tag := "", pkgPath := "", byteOffset := 40 },
        { name := "PtrToThis", type := 119, offset := 10, embedded := false, tag := "", pkgPath := "",
          byteOffset := 44 }]) 11 48 (Value.agg
        #[Value.int IntKind.u64 0, Value.int IntKind.u64 0, Value.int IntKind.u32 0, Value.int IntKind.u8 0,
          Value.int IntKind.u8 0, Value.int IntKind.u8 0, Value.int IntKind.u8 0, Value.nilFunc, Value.pointer none,
          Value.int IntKind.i32 0, Value.int IntKind.i32 0]) := ⟨Try.underlying121, Try.t121, rfl, rfl, rfl, rfl⟩
instance ty122 : Ty Try.prog 122 TypeDesc.unsafePointer 1 8 (Value.pointer none) := ⟨Try.underlying122, Try.t122, rfl, rfl, rfl, rfl⟩
instance fa7_0 : FieldAt Try.prog 7 0 0 := FieldAt.of (i := 0) Try.underlying7 rfl ty2 (by decide)
instance fo7_0 : FieldOf Try.prog 7 0 0 false 1 := FieldOf.of (i := 0) Try.underlying7 rfl ty2
instance fa7_1 : FieldAt Try.prog 7 1 1 := FieldAt.of (i := 1) Try.underlying7 rfl ty3 (by decide)
instance fo7_1 : FieldOf Try.prog 7 1 1 false 1 := FieldOf.of (i := 1) Try.underlying7 rfl ty3
instance fa7_2 : FieldAt Try.prog 7 2 2 := FieldAt.of (i := 2) Try.underlying7 rfl ty4 (by decide)
instance fo7_2 : FieldOf Try.prog 7 2 2 false 1 := FieldOf.of (i := 2) Try.underlying7 rfl ty4
instance fa7_3 : FieldAt Try.prog 7 3 3 := FieldAt.of (i := 3) Try.underlying7 rfl ty6 (by decide)
instance fo7_3 : FieldOf Try.prog 7 3 3 false 1 := FieldOf.of (i := 3) Try.underlying7 rfl ty6
instance bt7 : BuildT Try.prog 7 [(0, 1), (1, 1), (2, 1), (3, 1)] [Value.int IntKind.i64 0, Value.int IntKind.i64 0, Value.bool false, Value.int IntKind.u8 0] := BuildT.of Try.underlying7 Try.zeroValue7 (fun w => by kernel_rfl) (by decide)
instance fa8_0 : FieldAt Try.prog 8 0 0 := FieldAt.of (i := 0) Try.underlying8 rfl ty2 (by decide)
instance fo8_0 : FieldOf Try.prog 8 0 0 false 1 := FieldOf.of (i := 0) Try.underlying8 rfl ty2
instance fa8_1 : FieldAt Try.prog 8 1 1 := FieldAt.of (i := 1) Try.underlying8 rfl ty3 (by decide)
instance fo8_1 : FieldOf Try.prog 8 1 1 false 1 := FieldOf.of (i := 1) Try.underlying8 rfl ty3
instance fa8_2 : FieldAt Try.prog 8 2 2 := FieldAt.of (i := 2) Try.underlying8 rfl ty4 (by decide)
instance fo8_2 : FieldOf Try.prog 8 2 2 false 1 := FieldOf.of (i := 2) Try.underlying8 rfl ty4
instance fa8_3 : FieldAt Try.prog 8 3 3 := FieldAt.of (i := 3) Try.underlying8 rfl ty6 (by decide)
instance fo8_3 : FieldOf Try.prog 8 3 3 false 1 := FieldOf.of (i := 3) Try.underlying8 rfl ty6
instance bt8 : BuildT Try.prog 8 [(0, 1), (1, 1), (2, 1), (3, 1)] [Value.int IntKind.i64 0, Value.int IntKind.i64 0, Value.bool false, Value.int IntKind.u8 0] := BuildT.of Try.underlying8 Try.zeroValue8 (fun w => by kernel_rfl) (by decide)
instance fa13_0 : FieldAt Try.prog 13 0 0 := FieldAt.of (i := 0) Try.underlying13 rfl ty9 (by decide)
instance fo13_0 : FieldOf Try.prog 13 0 0 false 1 := FieldOf.of (i := 0) Try.underlying13 rfl ty9
instance fa13_1 : FieldAt Try.prog 13 1 1 := FieldAt.of (i := 1) Try.underlying13 rfl ty12 (by decide)
instance fo13_1 : FieldOf Try.prog 13 1 1 false 1 := FieldOf.of (i := 1) Try.underlying13 rfl ty12
instance bt13 : BuildT Try.prog 13 [(0, 1), (1, 1)] [Value.string { data := #[] }, Value.int IntKind.u64 0] := BuildT.of Try.underlying13 Try.zeroValue13 (fun w => by kernel_rfl) (by decide)
instance fa14_0 : FieldAt Try.prog 14 0 0 := FieldAt.of (i := 0) Try.underlying14 rfl ty9 (by decide)
instance fo14_0 : FieldOf Try.prog 14 0 0 false 1 := FieldOf.of (i := 0) Try.underlying14 rfl ty9
instance fa14_1 : FieldAt Try.prog 14 1 1 := FieldAt.of (i := 1) Try.underlying14 rfl ty12 (by decide)
instance fo14_1 : FieldOf Try.prog 14 1 1 false 1 := FieldOf.of (i := 1) Try.underlying14 rfl ty12
instance bt14 : BuildT Try.prog 14 [(0, 1), (1, 1)] [Value.string { data := #[] }, Value.int IntKind.u64 0] := BuildT.of Try.underlying14 Try.zeroValue14 (fun w => by kernel_rfl) (by decide)
instance fa18_0 : FieldAt Try.prog 18 0 0 := FieldAt.of (i := 0) Try.underlying18 rfl ty17 (by decide)
instance fo18_0 : FieldOf Try.prog 18 0 0 false 1 := FieldOf.of (i := 0) Try.underlying18 rfl ty17
instance bt18 : BuildT Try.prog 18 [(0, 1)] [Value.pointer none] := BuildT.of Try.underlying18 Try.zeroValue18 (fun w => by kernel_rfl) (by decide)
instance fa19_0 : FieldAt Try.prog 19 0 0 := FieldAt.of (i := 0) Try.underlying19 rfl ty17 (by decide)
instance fo19_0 : FieldOf Try.prog 19 0 0 false 1 := FieldOf.of (i := 0) Try.underlying19 rfl ty17
instance bt19 : BuildT Try.prog 19 [(0, 1)] [Value.pointer none] := BuildT.of Try.underlying19 Try.zeroValue19 (fun w => by kernel_rfl) (by decide)
instance fa23_0 : FieldAt Try.prog 23 0 0 := FieldAt.of (i := 0) Try.underlying23 rfl ty3 (by decide)
instance fo23_0 : FieldOf Try.prog 23 0 0 false 1 := FieldOf.of (i := 0) Try.underlying23 rfl ty3
instance fa23_1 : FieldAt Try.prog 23 1 1 := FieldAt.of (i := 1) Try.underlying23 rfl ty9 (by decide)
instance fo23_1 : FieldOf Try.prog 23 1 1 false 1 := FieldOf.of (i := 1) Try.underlying23 rfl ty9
instance fa23_2 : FieldAt Try.prog 23 2 2 := FieldAt.of (i := 2) Try.underlying23 rfl ty3 (by decide)
instance fo23_2 : FieldOf Try.prog 23 2 2 false 1 := FieldOf.of (i := 2) Try.underlying23 rfl ty3
instance fa23_3 : FieldAt Try.prog 23 3 3 := FieldAt.of (i := 3) Try.underlying23 rfl ty3 (by decide)
instance fo23_3 : FieldOf Try.prog 23 3 3 false 1 := FieldOf.of (i := 3) Try.underlying23 rfl ty3
instance fa23_4 : FieldAt Try.prog 23 4 4 := FieldAt.of (i := 4) Try.underlying23 rfl ty4 (by decide)
instance fo23_4 : FieldOf Try.prog 23 4 4 false 1 := FieldOf.of (i := 4) Try.underlying23 rfl ty4
instance fa23_5 : FieldAt Try.prog 23 5 5 := FieldAt.of (i := 5) Try.underlying23 rfl ty22 (by decide)
instance fo23_5 : FieldOf Try.prog 23 5 5 false 1 := FieldOf.of (i := 5) Try.underlying23 rfl ty22
instance bt23 : BuildT Try.prog 23 [(0, 1), (1, 1), (2, 1), (3, 1), (4, 1), (5, 1)] [Value.int IntKind.i64 0, Value.string { data := #[] }, Value.int IntKind.i64 0, Value.int IntKind.i64 0,
          Value.bool false, Value.slice none 0 0] := BuildT.of Try.underlying23 Try.zeroValue23 (fun w => by kernel_rfl) (by decide)
instance fa24_0 : FieldAt Try.prog 24 0 0 := FieldAt.of (i := 0) Try.underlying24 rfl ty3 (by decide)
instance fo24_0 : FieldOf Try.prog 24 0 0 false 1 := FieldOf.of (i := 0) Try.underlying24 rfl ty3
instance fa24_1 : FieldAt Try.prog 24 1 1 := FieldAt.of (i := 1) Try.underlying24 rfl ty9 (by decide)
instance fo24_1 : FieldOf Try.prog 24 1 1 false 1 := FieldOf.of (i := 1) Try.underlying24 rfl ty9
instance fa24_2 : FieldAt Try.prog 24 2 2 := FieldAt.of (i := 2) Try.underlying24 rfl ty3 (by decide)
instance fo24_2 : FieldOf Try.prog 24 2 2 false 1 := FieldOf.of (i := 2) Try.underlying24 rfl ty3
instance fa24_3 : FieldAt Try.prog 24 3 3 := FieldAt.of (i := 3) Try.underlying24 rfl ty3 (by decide)
instance fo24_3 : FieldOf Try.prog 24 3 3 false 1 := FieldOf.of (i := 3) Try.underlying24 rfl ty3
instance fa24_4 : FieldAt Try.prog 24 4 4 := FieldAt.of (i := 4) Try.underlying24 rfl ty4 (by decide)
instance fo24_4 : FieldOf Try.prog 24 4 4 false 1 := FieldOf.of (i := 4) Try.underlying24 rfl ty4
instance fa24_5 : FieldAt Try.prog 24 5 5 := FieldAt.of (i := 5) Try.underlying24 rfl ty22 (by decide)
instance fo24_5 : FieldOf Try.prog 24 5 5 false 1 := FieldOf.of (i := 5) Try.underlying24 rfl ty22
instance bt24 : BuildT Try.prog 24 [(0, 1), (1, 1), (2, 1), (3, 1), (4, 1), (5, 1)] [Value.int IntKind.i64 0, Value.string { data := #[] }, Value.int IntKind.i64 0, Value.int IntKind.i64 0,
          Value.bool false, Value.slice none 0 0] := BuildT.of Try.underlying24 Try.zeroValue24 (fun w => by kernel_rfl) (by decide)
instance fa27_0 : FieldAt Try.prog 27 0 0 := FieldAt.of (i := 0) Try.underlying27 rfl ty3 (by decide)
instance fo27_0 : FieldOf Try.prog 27 0 0 false 1 := FieldOf.of (i := 0) Try.underlying27 rfl ty3
instance fa27_1 : FieldAt Try.prog 27 1 1 := FieldAt.of (i := 1) Try.underlying27 rfl ty3 (by decide)
instance fo27_1 : FieldOf Try.prog 27 1 1 false 1 := FieldOf.of (i := 1) Try.underlying27 rfl ty3
instance fa27_2 : FieldAt Try.prog 27 2 2 := FieldAt.of (i := 2) Try.underlying27 rfl ty25 (by decide)
instance fo27_2 : FieldOf Try.prog 27 2 2 false 1 := FieldOf.of (i := 2) Try.underlying27 rfl ty25
instance fa27_3 : FieldAt Try.prog 27 3 3 := FieldAt.of (i := 3) Try.underlying27 rfl ty4 (by decide)
instance fo27_3 : FieldOf Try.prog 27 3 3 false 1 := FieldOf.of (i := 3) Try.underlying27 rfl ty4
instance fa27_4 : FieldAt Try.prog 27 4 4 := FieldAt.of (i := 4) Try.underlying27 rfl ty26 (by decide)
instance fo27_4 : FieldOf Try.prog 27 4 4 false 1 := FieldOf.of (i := 4) Try.underlying27 rfl ty26
instance bt27 : BuildT Try.prog 27 [(0, 1), (1, 1), (2, 1), (3, 1), (4, 1)] [Value.int IntKind.i64 0, Value.int IntKind.i64 0, Value.slice none 0 0, Value.bool false,
          Value.slice none 0 0] := BuildT.of Try.underlying27 Try.zeroValue27 (fun w => by kernel_rfl) (by decide)
instance fa28_0 : FieldAt Try.prog 28 0 0 := FieldAt.of (i := 0) Try.underlying28 rfl ty3 (by decide)
instance fo28_0 : FieldOf Try.prog 28 0 0 false 1 := FieldOf.of (i := 0) Try.underlying28 rfl ty3
instance fa28_1 : FieldAt Try.prog 28 1 1 := FieldAt.of (i := 1) Try.underlying28 rfl ty3 (by decide)
instance fo28_1 : FieldOf Try.prog 28 1 1 false 1 := FieldOf.of (i := 1) Try.underlying28 rfl ty3
instance fa28_2 : FieldAt Try.prog 28 2 2 := FieldAt.of (i := 2) Try.underlying28 rfl ty25 (by decide)
instance fo28_2 : FieldOf Try.prog 28 2 2 false 1 := FieldOf.of (i := 2) Try.underlying28 rfl ty25
instance fa28_3 : FieldAt Try.prog 28 3 3 := FieldAt.of (i := 3) Try.underlying28 rfl ty4 (by decide)
instance fo28_3 : FieldOf Try.prog 28 3 3 false 1 := FieldOf.of (i := 3) Try.underlying28 rfl ty4
instance fa28_4 : FieldAt Try.prog 28 4 4 := FieldAt.of (i := 4) Try.underlying28 rfl ty26 (by decide)
instance fo28_4 : FieldOf Try.prog 28 4 4 false 1 := FieldOf.of (i := 4) Try.underlying28 rfl ty26
instance bt28 : BuildT Try.prog 28 [(0, 1), (1, 1), (2, 1), (3, 1), (4, 1)] [Value.int IntKind.i64 0, Value.int IntKind.i64 0, Value.slice none 0 0, Value.bool false,
          Value.slice none 0 0] := BuildT.of Try.underlying28 Try.zeroValue28 (fun w => by kernel_rfl) (by decide)
instance fa57_0 : FieldAt Try.prog 57 0 0 := FieldAt.of (i := 0) Try.underlying57 rfl ty4 (by decide)
instance fo57_0 : FieldOf Try.prog 57 0 0 false 1 := FieldOf.of (i := 0) Try.underlying57 rfl ty4
instance bt57 : BuildT Try.prog 57 [(0, 1)] [Value.bool false] := BuildT.of Try.underlying57 Try.zeroValue57 (fun w => by kernel_rfl) (by decide)
instance fa58_0 : FieldAt Try.prog 58 0 0 := FieldAt.of (i := 0) Try.underlying58 rfl ty4 (by decide)
instance fo58_0 : FieldOf Try.prog 58 0 0 false 1 := FieldOf.of (i := 0) Try.underlying58 rfl ty4
instance bt58 : BuildT Try.prog 58 [(0, 1)] [Value.bool false] := BuildT.of Try.underlying58 Try.zeroValue58 (fun w => by kernel_rfl) (by decide)
instance fa62_0 : FieldAt Try.prog 62 0 0 := FieldAt.of (i := 0) Try.underlying62 rfl ty25 (by decide)
instance fo62_0 : FieldOf Try.prog 62 0 0 false 1 := FieldOf.of (i := 0) Try.underlying62 rfl ty25
instance fa62_1 : FieldAt Try.prog 62 1 1 := FieldAt.of (i := 1) Try.underlying62 rfl ty3 (by decide)
instance fo62_1 : FieldOf Try.prog 62 1 1 false 1 := FieldOf.of (i := 1) Try.underlying62 rfl ty3
instance fa62_2 : FieldAt Try.prog 62 2 2 := FieldAt.of (i := 2) Try.underlying62 rfl ty4 (by decide)
instance fo62_2 : FieldOf Try.prog 62 2 2 false 1 := FieldOf.of (i := 2) Try.underlying62 rfl ty4
instance bt62 : BuildT Try.prog 62 [(0, 1), (1, 1), (2, 1)] [Value.slice none 0 0, Value.int IntKind.i64 0, Value.bool false] := BuildT.of Try.underlying62 Try.zeroValue62 (fun w => by kernel_rfl) (by decide)
instance fa63_0 : FieldAt Try.prog 63 0 0 := FieldAt.of (i := 0) Try.underlying63 rfl ty25 (by decide)
instance fo63_0 : FieldOf Try.prog 63 0 0 false 1 := FieldOf.of (i := 0) Try.underlying63 rfl ty25
instance fa63_1 : FieldAt Try.prog 63 1 1 := FieldAt.of (i := 1) Try.underlying63 rfl ty3 (by decide)
instance fo63_1 : FieldOf Try.prog 63 1 1 false 1 := FieldOf.of (i := 1) Try.underlying63 rfl ty3
instance fa63_2 : FieldAt Try.prog 63 2 2 := FieldAt.of (i := 2) Try.underlying63 rfl ty4 (by decide)
instance fo63_2 : FieldOf Try.prog 63 2 2 false 1 := FieldOf.of (i := 2) Try.underlying63 rfl ty4
instance bt63 : BuildT Try.prog 63 [(0, 1), (1, 1), (2, 1)] [Value.slice none 0 0, Value.int IntKind.i64 0, Value.bool false] := BuildT.of Try.underlying63 Try.zeroValue63 (fun w => by kernel_rfl) (by decide)
instance fa70_0 : FieldAt Try.prog 70 0 0 := FieldAt.of (i := 0) Try.underlying70 rfl ty3 (by decide)
instance fo70_0 : FieldOf Try.prog 70 0 0 false 1 := FieldOf.of (i := 0) Try.underlying70 rfl ty3
instance fa70_1 : FieldAt Try.prog 70 1 1 := FieldAt.of (i := 1) Try.underlying70 rfl ty3 (by decide)
instance fo70_1 : FieldOf Try.prog 70 1 1 false 1 := FieldOf.of (i := 1) Try.underlying70 rfl ty3
instance bt70 : BuildT Try.prog 70 [(0, 1), (1, 1)] [Value.int IntKind.i64 0, Value.int IntKind.i64 0] := BuildT.of Try.underlying70 Try.zeroValue70 (fun w => by kernel_rfl) (by decide)
instance fa71_0 : FieldAt Try.prog 71 0 0 := FieldAt.of (i := 0) Try.underlying71 rfl ty3 (by decide)
instance fo71_0 : FieldOf Try.prog 71 0 0 false 1 := FieldOf.of (i := 0) Try.underlying71 rfl ty3
instance fa71_1 : FieldAt Try.prog 71 1 1 := FieldAt.of (i := 1) Try.underlying71 rfl ty3 (by decide)
instance fo71_1 : FieldOf Try.prog 71 1 1 false 1 := FieldOf.of (i := 1) Try.underlying71 rfl ty3
instance bt71 : BuildT Try.prog 71 [(0, 1), (1, 1)] [Value.int IntKind.i64 0, Value.int IntKind.i64 0] := BuildT.of Try.underlying71 Try.zeroValue71 (fun w => by kernel_rfl) (by decide)
instance fa107_0 : FieldAt Try.prog 107 0 0 := FieldAt.of (i := 0) Try.underlying107 rfl ty17 (by decide)
instance fo107_0 : FieldOf Try.prog 107 0 0 false 1 := FieldOf.of (i := 0) Try.underlying107 rfl ty17
instance fa107_1 : FieldAt Try.prog 107 1 1 := FieldAt.of (i := 1) Try.underlying107 rfl ty17 (by decide)
instance fo107_1 : FieldOf Try.prog 107 1 1 false 1 := FieldOf.of (i := 1) Try.underlying107 rfl ty17
instance fa107_2 : FieldAt Try.prog 107 2 2 := FieldAt.of (i := 2) Try.underlying107 rfl ty17 (by decide)
instance fo107_2 : FieldOf Try.prog 107 2 2 false 1 := FieldOf.of (i := 2) Try.underlying107 rfl ty17
instance fa107_3 : FieldAt Try.prog 107 3 3 := FieldAt.of (i := 3) Try.underlying107 rfl ty9 (by decide)
instance fo107_3 : FieldOf Try.prog 107 3 3 false 1 := FieldOf.of (i := 3) Try.underlying107 rfl ty9
instance bt107 : BuildT Try.prog 107 [(0, 1), (1, 1), (2, 1), (3, 1)] [Value.pointer none, Value.pointer none, Value.pointer none, Value.string { data := #[] }] := BuildT.of Try.underlying107 Try.zeroValue107 (fun w => by kernel_rfl) (by decide)
instance fa108_0 : FieldAt Try.prog 108 0 0 := FieldAt.of (i := 0) Try.underlying108 rfl ty17 (by decide)
instance fo108_0 : FieldOf Try.prog 108 0 0 false 1 := FieldOf.of (i := 0) Try.underlying108 rfl ty17
instance fa108_1 : FieldAt Try.prog 108 1 1 := FieldAt.of (i := 1) Try.underlying108 rfl ty17 (by decide)
instance fo108_1 : FieldOf Try.prog 108 1 1 false 1 := FieldOf.of (i := 1) Try.underlying108 rfl ty17
instance fa108_2 : FieldAt Try.prog 108 2 2 := FieldAt.of (i := 2) Try.underlying108 rfl ty17 (by decide)
instance fo108_2 : FieldOf Try.prog 108 2 2 false 1 := FieldOf.of (i := 2) Try.underlying108 rfl ty17
instance fa108_3 : FieldAt Try.prog 108 3 3 := FieldAt.of (i := 3) Try.underlying108 rfl ty9 (by decide)
instance fo108_3 : FieldOf Try.prog 108 3 3 false 1 := FieldOf.of (i := 3) Try.underlying108 rfl ty9
instance bt108 : BuildT Try.prog 108 [(0, 1), (1, 1), (2, 1), (3, 1)] [Value.pointer none, Value.pointer none, Value.pointer none, Value.string { data := #[] }] := BuildT.of Try.underlying108 Try.zeroValue108 (fun w => by kernel_rfl) (by decide)
instance fo110_0 : FieldOf Try.prog 110 0 0 true 0 := FieldOf.of (i := 0) Try.underlying110 rfl ty109
instance bt110 : BuildT Try.prog 110 [(0, 0)] [] := BuildT.of Try.underlying110 Try.zeroValue110 (fun w => by kernel_rfl) (by decide)
instance fo111_0 : FieldOf Try.prog 111 0 0 true 0 := FieldOf.of (i := 0) Try.underlying111 rfl ty109
instance bt111 : BuildT Try.prog 111 [(0, 0)] [] := BuildT.of Try.underlying111 Try.zeroValue111 (fun w => by kernel_rfl) (by decide)
instance fa120_0 : FieldAt Try.prog 120 0 0 := FieldAt.of (i := 0) Try.underlying120 rfl ty12 (by decide)
instance fo120_0 : FieldOf Try.prog 120 0 0 false 1 := FieldOf.of (i := 0) Try.underlying120 rfl ty12
instance fa120_1 : FieldAt Try.prog 120 1 1 := FieldAt.of (i := 1) Try.underlying120 rfl ty12 (by decide)
instance fo120_1 : FieldOf Try.prog 120 1 1 false 1 := FieldOf.of (i := 1) Try.underlying120 rfl ty12
instance fa120_2 : FieldAt Try.prog 120 2 2 := FieldAt.of (i := 2) Try.underlying120 rfl ty113 (by decide)
instance fo120_2 : FieldOf Try.prog 120 2 2 false 1 := FieldOf.of (i := 2) Try.underlying120 rfl ty113
instance fa120_3 : FieldAt Try.prog 120 3 3 := FieldAt.of (i := 3) Try.underlying120 rfl ty114 (by decide)
instance fo120_3 : FieldOf Try.prog 120 3 3 false 1 := FieldOf.of (i := 3) Try.underlying120 rfl ty114
instance fa120_4 : FieldAt Try.prog 120 4 4 := FieldAt.of (i := 4) Try.underlying120 rfl ty5 (by decide)
instance fo120_4 : FieldOf Try.prog 120 4 4 false 1 := FieldOf.of (i := 4) Try.underlying120 rfl ty5
instance fa120_5 : FieldAt Try.prog 120 5 5 := FieldAt.of (i := 5) Try.underlying120 rfl ty5 (by decide)
instance fo120_5 : FieldOf Try.prog 120 5 5 false 1 := FieldOf.of (i := 5) Try.underlying120 rfl ty5
instance fa120_6 : FieldAt Try.prog 120 6 6 := FieldAt.of (i := 6) Try.underlying120 rfl ty115 (by decide)
instance fo120_6 : FieldOf Try.prog 120 6 6 false 1 := FieldOf.of (i := 6) Try.underlying120 rfl ty115
instance fa120_7 : FieldAt Try.prog 120 7 7 := FieldAt.of (i := 7) Try.underlying120 rfl ty116 (by decide)
instance fo120_7 : FieldOf Try.prog 120 7 7 false 1 := FieldOf.of (i := 7) Try.underlying120 rfl ty116
instance fa120_8 : FieldAt Try.prog 120 8 8 := FieldAt.of (i := 8) Try.underlying120 rfl ty117 (by decide)
instance fo120_8 : FieldOf Try.prog 120 8 8 false 1 := FieldOf.of (i := 8) Try.underlying120 rfl ty117
instance fa120_9 : FieldAt Try.prog 120 9 9 := FieldAt.of (i := 9) Try.underlying120 rfl ty118 (by decide)
instance fo120_9 : FieldOf Try.prog 120 9 9 false 1 := FieldOf.of (i := 9) Try.underlying120 rfl ty118
instance fa120_10 : FieldAt Try.prog 120 10 10 := FieldAt.of (i := 10) Try.underlying120 rfl ty119 (by decide)
instance fo120_10 : FieldOf Try.prog 120 10 10 false 1 := FieldOf.of (i := 10) Try.underlying120 rfl ty119
instance bt120 : BuildT Try.prog 120 [(0, 1), (1, 1), (2, 1), (3, 1), (4, 1), (5, 1), (6, 1), (7, 1), (8, 1), (9, 1), (10, 1)] [Value.int IntKind.u64 0, Value.int IntKind.u64 0, Value.int IntKind.u32 0, Value.int IntKind.u8 0,
          Value.int IntKind.u8 0, Value.int IntKind.u8 0, Value.int IntKind.u8 0, Value.nilFunc, Value.pointer none,
          Value.int IntKind.i32 0, Value.int IntKind.i32 0] := BuildT.of Try.underlying120 Try.zeroValue120 (fun w => by kernel_rfl) (by decide)
instance fa121_0 : FieldAt Try.prog 121 0 0 := FieldAt.of (i := 0) Try.underlying121 rfl ty12 (by decide)
instance fo121_0 : FieldOf Try.prog 121 0 0 false 1 := FieldOf.of (i := 0) Try.underlying121 rfl ty12
instance fa121_1 : FieldAt Try.prog 121 1 1 := FieldAt.of (i := 1) Try.underlying121 rfl ty12 (by decide)
instance fo121_1 : FieldOf Try.prog 121 1 1 false 1 := FieldOf.of (i := 1) Try.underlying121 rfl ty12
instance fa121_2 : FieldAt Try.prog 121 2 2 := FieldAt.of (i := 2) Try.underlying121 rfl ty113 (by decide)
instance fo121_2 : FieldOf Try.prog 121 2 2 false 1 := FieldOf.of (i := 2) Try.underlying121 rfl ty113
instance fa121_3 : FieldAt Try.prog 121 3 3 := FieldAt.of (i := 3) Try.underlying121 rfl ty114 (by decide)
instance fo121_3 : FieldOf Try.prog 121 3 3 false 1 := FieldOf.of (i := 3) Try.underlying121 rfl ty114
instance fa121_4 : FieldAt Try.prog 121 4 4 := FieldAt.of (i := 4) Try.underlying121 rfl ty5 (by decide)
instance fo121_4 : FieldOf Try.prog 121 4 4 false 1 := FieldOf.of (i := 4) Try.underlying121 rfl ty5
instance fa121_5 : FieldAt Try.prog 121 5 5 := FieldAt.of (i := 5) Try.underlying121 rfl ty5 (by decide)
instance fo121_5 : FieldOf Try.prog 121 5 5 false 1 := FieldOf.of (i := 5) Try.underlying121 rfl ty5
instance fa121_6 : FieldAt Try.prog 121 6 6 := FieldAt.of (i := 6) Try.underlying121 rfl ty115 (by decide)
instance fo121_6 : FieldOf Try.prog 121 6 6 false 1 := FieldOf.of (i := 6) Try.underlying121 rfl ty115
instance fa121_7 : FieldAt Try.prog 121 7 7 := FieldAt.of (i := 7) Try.underlying121 rfl ty116 (by decide)
instance fo121_7 : FieldOf Try.prog 121 7 7 false 1 := FieldOf.of (i := 7) Try.underlying121 rfl ty116
instance fa121_8 : FieldAt Try.prog 121 8 8 := FieldAt.of (i := 8) Try.underlying121 rfl ty117 (by decide)
instance fo121_8 : FieldOf Try.prog 121 8 8 false 1 := FieldOf.of (i := 8) Try.underlying121 rfl ty117
instance fa121_9 : FieldAt Try.prog 121 9 9 := FieldAt.of (i := 9) Try.underlying121 rfl ty118 (by decide)
instance fo121_9 : FieldOf Try.prog 121 9 9 false 1 := FieldOf.of (i := 9) Try.underlying121 rfl ty118
instance fa121_10 : FieldAt Try.prog 121 10 10 := FieldAt.of (i := 10) Try.underlying121 rfl ty119 (by decide)
instance fo121_10 : FieldOf Try.prog 121 10 10 false 1 := FieldOf.of (i := 10) Try.underlying121 rfl ty119
instance bt121 : BuildT Try.prog 121 [(0, 1), (1, 1), (2, 1), (3, 1), (4, 1), (5, 1), (6, 1), (7, 1), (8, 1), (9, 1), (10, 1)] [Value.int IntKind.u64 0, Value.int IntKind.u64 0, Value.int IntKind.u32 0, Value.int IntKind.u8 0,
          Value.int IntKind.u8 0, Value.int IntKind.u8 0, Value.int IntKind.u8 0, Value.nilFunc, Value.pointer none,
          Value.int IntKind.i32 0, Value.int IntKind.i32 0] := BuildT.of Try.underlying121 Try.zeroValue121 (fun w => by kernel_rfl) (by decide)
instance kk2 : KeyT Try.prog 2 (.int .i64) := ⟨Try.underlying2⟩
instance kk3 : KeyT Try.prog 3 (.int .i64) := ⟨Try.underlying3⟩
instance kk4 : KeyT Try.prog 4 (.bool) := ⟨Try.underlying4⟩
instance kk5 : KeyT Try.prog 5 (.int .u8) := ⟨Try.underlying5⟩
instance kk6 : KeyT Try.prog 6 (.int .u8) := ⟨Try.underlying6⟩
instance kk9 : KeyT Try.prog 9 (.str) := ⟨Try.underlying9⟩
instance kk10 : KeyT Try.prog 10 (.str) := ⟨Try.underlying10⟩
instance kk11 : KeyT Try.prog 11 (.str) := ⟨Try.underlying11⟩
instance kk12 : KeyT Try.prog 12 (.int .u64) := ⟨Try.underlying12⟩
instance kk21 : KeyT Try.prog 21 (.int .i32) := ⟨Try.underlying21⟩
instance kk32 : KeyT Try.prog 32 (.int .i64) := ⟨Try.underlying32⟩
instance kk73 : KeyT Try.prog 73 (.int .i64) := ⟨Try.underlying73⟩
instance kk98 : KeyT Try.prog 98 (.int .u64) := ⟨Try.underlying98⟩
instance kk113 : KeyT Try.prog 113 (.int .u32) := ⟨Try.underlying113⟩
instance kk114 : KeyT Try.prog 114 (.int .u8) := ⟨Try.underlying114⟩
instance kk115 : KeyT Try.prog 115 (.int .u8) := ⟨Try.underlying115⟩
instance kk118 : KeyT Try.prog 118 (.int .i32) := ⟨Try.underlying118⟩
instance kk119 : KeyT Try.prog 119 (.int .i32) := ⟨Try.underlying119⟩
instance fe58 : FlatEq Try.prog 58 [(0, .bool)] := ⟨by kernel_rfl, by kernel_rfl, _, Try.underlying58, flat_cons (by decide) rfl Try.underlying4 (flat_nil)⟩
instance fe71 : FlatEq Try.prog 71 [(0, .int .i64), (1, .int .i64)] := ⟨by kernel_rfl, by kernel_rfl, _, Try.underlying71, flat_cons (by decide) rfl Try.underlying3 (flat_cons (by decide) rfl Try.underlying3 (flat_nil))⟩
instance ae42 : ArrEq Try.prog 42 4 (.int .i64) := ⟨by kernel_rfl, _, _, Try.underlying42, rfl, rfl, Try.underlying3⟩
instance ae79 : ArrEq Try.prog 79 8 (.int .u8) := ⟨by kernel_rfl, _, _, Try.underlying79, rfl, rfl, Try.underlying5⟩
instance en2 : Ent Try.prog 2 := ⟨Try.call2⟩
instance en3 : Ent Try.prog 3 := ⟨Try.call3⟩
instance en4 : Ent Try.prog 4 := ⟨Try.call4⟩
instance en5 : Ent Try.prog 5 := ⟨Try.call5⟩
instance en6 : Ent Try.prog 6 := ⟨Try.call6⟩
instance en7 : Ent Try.prog 7 := ⟨Try.call7⟩
instance en8 : Ent Try.prog 8 := ⟨Try.call8⟩
instance en9 : Ent Try.prog 9 := ⟨Try.call9⟩
instance en10 : Ent Try.prog 10 := ⟨Try.call10⟩
instance en11 : Ent Try.prog 11 := ⟨Try.call11⟩
instance en12 : Ent Try.prog 12 := ⟨Try.call12⟩
instance en13 : Ent Try.prog 13 := ⟨Try.call13⟩
instance en14 : Ent Try.prog 14 := ⟨Try.call14⟩
instance en15 : Ent Try.prog 15 := ⟨Try.call15⟩
instance en16 : Ent Try.prog 16 := ⟨Try.call16⟩
instance en17 : Ent Try.prog 17 := ⟨Try.call17⟩
instance en18 : Ent Try.prog 18 := ⟨Try.call18⟩
instance en19 : Ent Try.prog 19 := ⟨Try.call19⟩
instance en20 : Ent Try.prog 20 := ⟨Try.call20⟩
instance en21 : Ent Try.prog 21 := ⟨Try.call21⟩
instance en22 : Ent Try.prog 22 := ⟨Try.call22⟩
instance en23 : Ent Try.prog 23 := ⟨Try.call23⟩
instance en24 : Ent Try.prog 24 := ⟨Try.call24⟩
instance en25 : Ent Try.prog 25 := ⟨Try.call25⟩
instance en26 : Ent Try.prog 26 := ⟨Try.call26⟩
instance en27 : Ent Try.prog 27 := ⟨Try.call27⟩
instance en28 : Ent Try.prog 28 := ⟨Try.call28⟩
instance en29 : Ent Try.prog 29 := ⟨Try.call29⟩
instance en30 : Ent Try.prog 30 := ⟨Try.call30⟩
instance en31 : Ent Try.prog 31 := ⟨Try.call31⟩
instance en32 : Ent Try.prog 32 := ⟨Try.call32⟩
instance en33 : Ent Try.prog 33 := ⟨Try.call33⟩
instance en34 : Ent Try.prog 34 := ⟨Try.call34⟩
instance en35 : Ent Try.prog 35 := ⟨Try.call35⟩
instance en36 : Ent Try.prog 36 := ⟨Try.call36⟩
instance en37 : Ent Try.prog 37 := ⟨Try.call37⟩
instance en38 : Ent Try.prog 38 := ⟨Try.call38⟩
instance en39 : Ent Try.prog 39 := ⟨Try.call39⟩
instance en40 : Ent Try.prog 40 := ⟨Try.call40⟩
instance en41 : Ent Try.prog 41 := ⟨Try.call41⟩
instance en42 : Ent Try.prog 42 := ⟨Try.call42⟩
instance en43 : Ent Try.prog 43 := ⟨Try.call43⟩
instance en44 : Ent Try.prog 44 := ⟨Try.call44⟩
instance en45 : Ent Try.prog 45 := ⟨Try.call45⟩
instance en46 : Ent Try.prog 46 := ⟨Try.call46⟩
instance en47 : Ent Try.prog 47 := ⟨Try.call47⟩
instance en48 : Ent Try.prog 48 := ⟨Try.call48⟩
instance en49 : Ent Try.prog 49 := ⟨Try.call49⟩
instance en50 : Ent Try.prog 50 := ⟨Try.call50⟩
instance en51 : Ent Try.prog 51 := ⟨Try.call51⟩
instance en52 : Ent Try.prog 52 := ⟨Try.call52⟩
instance en53 : Ent Try.prog 53 := ⟨Try.call53⟩
instance en54 : Ent Try.prog 54 := ⟨Try.call54⟩
instance en55 : Ent Try.prog 55 := ⟨Try.call55⟩
instance en56 : Ent Try.prog 56 := ⟨Try.call56⟩
instance en57 : Ent Try.prog 57 := ⟨Try.call57⟩
instance en58 : Ent Try.prog 58 := ⟨Try.call58⟩
instance en59 : Ent Try.prog 59 := ⟨Try.call59⟩
instance en60 : Ent Try.prog 60 := ⟨Try.call60⟩
instance en61 : Ent Try.prog 61 := ⟨Try.call61⟩
instance en62 : Ent Try.prog 62 := ⟨Try.call62⟩
instance en63 : Ent Try.prog 63 := ⟨Try.call63⟩
instance en64 : Ent Try.prog 64 := ⟨Try.call64⟩
instance en65 : Ent Try.prog 65 := ⟨Try.call65⟩
instance en66 : Ent Try.prog 66 := ⟨Try.call66⟩
instance en67 : Ent Try.prog 67 := ⟨Try.call67⟩
instance en68 : Ent Try.prog 68 := ⟨Try.call68⟩
instance en69 : Ent Try.prog 69 := ⟨Try.call69⟩
instance en70 : Ent Try.prog 70 := ⟨Try.call70⟩
instance en71 : Ent Try.prog 71 := ⟨Try.call71⟩
instance en72 : Ent Try.prog 72 := ⟨Try.call72⟩
instance en73 : Ent Try.prog 73 := ⟨Try.call73⟩
instance en74 : Ent Try.prog 74 := ⟨Try.call74⟩
instance en75 : Ent Try.prog 75 := ⟨Try.call75⟩
instance en76 : Ent Try.prog 76 := ⟨Try.call76⟩
instance en77 : Ent Try.prog 77 := ⟨Try.call77⟩
instance en78 : Ent Try.prog 78 := ⟨Try.call78⟩
instance en79 : Ent Try.prog 79 := ⟨Try.call79⟩
instance en80 : Ent Try.prog 80 := ⟨Try.call80⟩
instance en81 : Ent Try.prog 81 := ⟨Try.call81⟩
instance en82 : Ent Try.prog 82 := ⟨Try.call82⟩
instance en83 : Ent Try.prog 83 := ⟨Try.call83⟩
instance en84 : Ent Try.prog 84 := ⟨Try.call84⟩
instance en85 : Ent Try.prog 85 := ⟨Try.call85⟩
instance en86 : Ent Try.prog 86 := ⟨Try.call86⟩
instance en87 : Ent Try.prog 87 := ⟨Try.call87⟩
instance en88 : Ent Try.prog 88 := ⟨Try.call88⟩
instance en89 : Ent Try.prog 89 := ⟨Try.call89⟩
instance en90 : Ent Try.prog 90 := ⟨Try.call90⟩
instance en91 : Ent Try.prog 91 := ⟨Try.call91⟩
instance en92 : Ent Try.prog 92 := ⟨Try.call92⟩
instance en93 : Ent Try.prog 93 := ⟨Try.call93⟩
end Go.Proofs.Ytepmllodaoanmaa
