import Derived.Test.YtbhbjlhobdoomaaDoorProg
import Derived.Test.YtbhbjlhobdoomaaDoorAx1
import Derived.KernelRfl
set_option linter.unusedVariables false
set_option maxRecDepth 100000
namespace Go.Proofs.YtbhbjlhobdoomaaDoor
open Go Go.AX
instance ty0 : Ty Tryd.prog 0 (TypeDesc.tuple #[]) 1 0 (Value.tuple #[]) := ⟨Tryd.underlying0, Tryd.t0, rfl, rfl, rfl, rfl⟩
instance ty1 : Ty Tryd.prog 1 (TypeDesc.func #[] #[] false) 1 8 Value.nilFunc := ⟨Tryd.underlying1, Tryd.t1, rfl, rfl, rfl, rfl⟩
instance ty2 : Ty Tryd.prog 2 (TypeDesc.int IntKind.i64) 1 8 (Value.int IntKind.i64 0) := ⟨Tryd.underlying2, Tryd.t2, rfl, rfl, rfl, rfl⟩
instance ty3 : Ty Tryd.prog 3 (TypeDesc.int IntKind.i64) 1 8 (Value.int IntKind.i64 0) := ⟨Tryd.underlying3, Tryd.t3, rfl, rfl, rfl, rfl⟩
instance ty4 : Ty Tryd.prog 4 TypeDesc.bool 1 1 (Value.bool false) := ⟨Tryd.underlying4, Tryd.t4, rfl, rfl, rfl, rfl⟩
instance ty5 : Ty Tryd.prog 5 (TypeDesc.int IntKind.u8) 1 1 (Value.int IntKind.u8 0) := ⟨Tryd.underlying5, Tryd.t5, rfl, rfl, rfl, rfl⟩
instance ty6 : Ty Tryd.prog 6 (TypeDesc.int IntKind.u8) 1 1 (Value.int IntKind.u8 0) := ⟨Tryd.underlying6, Tryd.t6, rfl, rfl, rfl, rfl⟩
instance ty7 : Ty Tryd.prog 7 (TypeDesc.struct
      #[{ name := "x", type := 2, offset := 0, embedded := false, tag := "", pkgPath := "runtime", byteOffset := 0 },
        { name := "y", type := 3, offset := 1, embedded := false, tag := "", pkgPath := "runtime", byteOffset := 8 },
        { name := "signed", type := 4, offset := 2, embedded := false, tag := "", pkgPath := "runtime",
          byteOffset := 16 },
        { name := "code", type := 6, offset := 3, embedded := false, tag := "", pkgPath := "runtime",
          byteOffset := 17 }]) 4 24 (Value.agg #[Value.int IntKind.i64 0, Value.int IntKind.i64 0, Value.bool false, Value.int IntKind.u8 0]) := ⟨Tryd.underlying7, Tryd.t7, rfl, rfl, rfl, rfl⟩
instance ty8 : Ty Tryd.prog 8 (TypeDesc.struct
      #[{ name := "x", type := 2, offset := 0, embedded := false, tag := "", pkgPath := "runtime", byteOffset := 0 },
        { name := "y", type := 3, offset := 1, embedded := false, tag := "", pkgPath := "runtime", byteOffset := 8 },
        { name := "signed", type := 4, offset := 2, embedded := false, tag := "", pkgPath := "runtime",
          byteOffset := 16 },
        { name := "code", type := 6, offset := 3, embedded := false, tag := "", pkgPath := "runtime",
          byteOffset := 17 }]) 4 24 (Value.agg #[Value.int IntKind.i64 0, Value.int IntKind.i64 0, Value.bool false, Value.int IntKind.u8 0]) := ⟨Tryd.underlying8, Tryd.t8, rfl, rfl, rfl, rfl⟩
instance ty9 : Ty Tryd.prog 9 TypeDesc.string 1 16 (Value.string { data := #[] }) := ⟨Tryd.underlying9, Tryd.t9, rfl, rfl, rfl, rfl⟩
instance ty10 : Ty Tryd.prog 10 TypeDesc.string 1 16 (Value.string { data := #[] }) := ⟨Tryd.underlying10, Tryd.t10, rfl, rfl, rfl, rfl⟩
instance ty11 : Ty Tryd.prog 11 TypeDesc.string 1 16 (Value.string { data := #[] }) := ⟨Tryd.underlying11, Tryd.t11, rfl, rfl, rfl, rfl⟩
instance ty12 : Ty Tryd.prog 12 (TypeDesc.int IntKind.u64) 1 8 (Value.int IntKind.u64 0) := ⟨Tryd.underlying12, Tryd.t12, rfl, rfl, rfl, rfl⟩
instance ty13 : Ty Tryd.prog 13 (TypeDesc.struct
      #[{ name := "msg", type := 9, offset := 0, embedded := false, tag := "", pkgPath := "runtime", byteOffset := 0 },
        { name := "addr", type := 12, offset := 1, embedded := false, tag := "", pkgPath := "runtime",
          byteOffset := 16 }]) 2 24 (Value.agg #[Value.string { data := #[] }, Value.int IntKind.u64 0]) := ⟨Tryd.underlying13, Tryd.t13, rfl, rfl, rfl, rfl⟩
instance ty14 : Ty Tryd.prog 14 (TypeDesc.struct
      #[{ name := "msg", type := 9, offset := 0, embedded := false, tag := "", pkgPath := "runtime", byteOffset := 0 },
        { name := "addr", type := 12, offset := 1, embedded := false, tag := "", pkgPath := "runtime",
          byteOffset := 16 }]) 2 24 (Value.agg #[Value.string { data := #[] }, Value.int IntKind.u64 0]) := ⟨Tryd.underlying14, Tryd.t14, rfl, rfl, rfl, rfl⟩
instance ty15 : Ty Tryd.prog 15 (TypeDesc.pointer 142) 1 8 (Value.pointer none) := ⟨Tryd.underlying15, Tryd.t15, rfl, rfl, rfl, rfl⟩
instance ty16 : Ty Tryd.prog 16 (TypeDesc.pointer 145) 1 8 (Value.pointer none) := ⟨Tryd.underlying16, Tryd.t16, rfl, rfl, rfl, rfl⟩
instance ty17 : Ty Tryd.prog 17 (TypeDesc.pointer 153) 1 8 (Value.pointer none) := ⟨Tryd.underlying17, Tryd.t17, rfl, rfl, rfl, rfl⟩
instance ty18 : Ty Tryd.prog 18 (TypeDesc.struct
      #[{ name := "typ", type := 17, offset := 0, embedded := false, tag := "", pkgPath := "internal/runtime/maps",
          byteOffset := 0 }]) 1 8 (Value.agg #[Value.pointer none]) := ⟨Tryd.underlying18, Tryd.t18, rfl, rfl, rfl, rfl⟩
instance ty19 : Ty Tryd.prog 19 (TypeDesc.struct
      #[{ name := "typ", type := 17, offset := 0, embedded := false, tag := "", pkgPath := "internal/runtime/maps",
          byteOffset := 0 }]) 1 8 (Value.agg #[Value.pointer none]) := ⟨Tryd.underlying19, Tryd.t19, rfl, rfl, rfl, rfl⟩
instance ty20 : Ty Tryd.prog 20 (TypeDesc.interface #[]) 1 16 Value.nilIface := ⟨Tryd.underlying20, Tryd.t20, rfl, rfl, rfl, rfl⟩
instance ty21 : Ty Tryd.prog 21 (TypeDesc.int IntKind.i32) 1 4 (Value.int IntKind.i32 0) := ⟨Tryd.underlying21, Tryd.t21, rfl, rfl, rfl, rfl⟩
instance ty22 : Ty Tryd.prog 22 (TypeDesc.func #[] #[4] false) 1 8 Value.nilFunc := ⟨Tryd.underlying22, Tryd.t22, rfl, rfl, rfl, rfl⟩
instance ty23 : Ty Tryd.prog 23 (TypeDesc.slice 33) 1 24 (Value.slice none 0 0) := ⟨Tryd.underlying23, Tryd.t23, rfl, rfl, rfl, rfl⟩
instance ty24 : Ty Tryd.prog 24 (TypeDesc.int IntKind.i64) 1 8 (Value.int IntKind.i64 0) := ⟨Tryd.underlying24, Tryd.t24, rfl, rfl, rfl, rfl⟩
instance ty25 : Ty Tryd.prog 25 (TypeDesc.tuple #[23, 3, 24]) 1 0 (Value.tuple #[Value.slice none 0 0, Value.int IntKind.i64 0, Value.int IntKind.i64 0]) := ⟨Tryd.underlying25, Tryd.t25, rfl, rfl, rfl, rfl⟩
instance ty26 : Ty Tryd.prog 26 (TypeDesc.func #[9] #[23, 3, 24] false) 1 8 Value.nilFunc := ⟨Tryd.underlying26, Tryd.t26, rfl, rfl, rfl, rfl⟩
instance ty27 : Ty Tryd.prog 27 (TypeDesc.func #[23, 23] #[4] false) 1 8 Value.nilFunc := ⟨Tryd.underlying27, Tryd.t27, rfl, rfl, rfl, rfl⟩
instance ty28 : Ty Tryd.prog 28 (TypeDesc.func #[9] #[4] false) 1 8 Value.nilFunc := ⟨Tryd.underlying28, Tryd.t28, rfl, rfl, rfl, rfl⟩
instance ty29 : Ty Tryd.prog 29 (TypeDesc.func #[9, 9] #[4] false) 1 8 Value.nilFunc := ⟨Tryd.underlying29, Tryd.t29, rfl, rfl, rfl, rfl⟩
instance ty30 : Ty Tryd.prog 30 (TypeDesc.tuple #[9, 24]) 1 0 (Value.tuple #[Value.string { data := #[] }, Value.int IntKind.i64 0]) := ⟨Tryd.underlying30, Tryd.t30, rfl, rfl, rfl, rfl⟩
instance ty31 : Ty Tryd.prog 31 (TypeDesc.func #[9] #[9, 24] false) 1 8 Value.nilFunc := ⟨Tryd.underlying31, Tryd.t31, rfl, rfl, rfl, rfl⟩
instance ty32 : Ty Tryd.prog 32 (TypeDesc.struct
      #[{ name := "Kind", type := 3, offset := 0, embedded := false, tag := "", pkgPath := "", byteOffset := 0 },
        { name := "N", type := 3, offset := 1, embedded := false, tag := "", pkgPath := "", byteOffset := 8 },
        { name := "At", type := 3, offset := 2, embedded := false, tag := "", pkgPath := "", byteOffset := 16 },
        { name := "Text", type := 9, offset := 3, embedded := false, tag := "", pkgPath := "", byteOffset := 24 }]) 4 40 (Value.agg
        #[Value.int IntKind.i64 0, Value.int IntKind.i64 0, Value.int IntKind.i64 0, Value.string { data := #[] }]) := ⟨Tryd.underlying32, Tryd.t32, rfl, rfl, rfl, rfl⟩
instance ty33 : Ty Tryd.prog 33 (TypeDesc.struct
      #[{ name := "Kind", type := 3, offset := 0, embedded := false, tag := "", pkgPath := "", byteOffset := 0 },
        { name := "N", type := 3, offset := 1, embedded := false, tag := "", pkgPath := "", byteOffset := 8 },
        { name := "At", type := 3, offset := 2, embedded := false, tag := "", pkgPath := "", byteOffset := 16 },
        { name := "Text", type := 9, offset := 3, embedded := false, tag := "", pkgPath := "", byteOffset := 24 }]) 4 40 (Value.agg
        #[Value.int IntKind.i64 0, Value.int IntKind.i64 0, Value.int IntKind.i64 0, Value.string { data := #[] }]) := ⟨Tryd.underlying33, Tryd.t33, rfl, rfl, rfl, rfl⟩
instance ty34 : Ty Tryd.prog 34 (TypeDesc.func #[23] #[3] false) 1 8 Value.nilFunc := ⟨Tryd.underlying34, Tryd.t34, rfl, rfl, rfl, rfl⟩
instance ty35 : Ty Tryd.prog 35 (TypeDesc.func #[23] #[9, 24] false) 1 8 Value.nilFunc := ⟨Tryd.underlying35, Tryd.t35, rfl, rfl, rfl, rfl⟩
instance ty36 : Ty Tryd.prog 36 (TypeDesc.tuple #[3, 3, 24]) 1 0 (Value.tuple #[Value.int IntKind.i64 0, Value.int IntKind.i64 0, Value.int IntKind.i64 0]) := ⟨Tryd.underlying36, Tryd.t36, rfl, rfl, rfl, rfl⟩
instance ty37 : Ty Tryd.prog 37 (TypeDesc.func #[9, 3] #[3, 3, 24] false) 1 8 Value.nilFunc := ⟨Tryd.underlying37, Tryd.t37, rfl, rfl, rfl, rfl⟩
instance ty38 : Ty Tryd.prog 38 (TypeDesc.func #[3] #[9, 24] false) 1 8 Value.nilFunc := ⟨Tryd.underlying38, Tryd.t38, rfl, rfl, rfl, rfl⟩
instance ty39 : Ty Tryd.prog 39 (TypeDesc.func #[3] #[9] false) 1 8 Value.nilFunc := ⟨Tryd.underlying39, Tryd.t39, rfl, rfl, rfl, rfl⟩
instance ty40 : Ty Tryd.prog 40 (TypeDesc.func #[9, 3, 3] #[4] false) 1 8 Value.nilFunc := ⟨Tryd.underlying40, Tryd.t40, rfl, rfl, rfl, rfl⟩
instance ty41 : Ty Tryd.prog 41 (TypeDesc.func #[61] #[] false) 1 8 Value.nilFunc := ⟨Tryd.underlying41, Tryd.t41, rfl, rfl, rfl, rfl⟩
instance ty42 : Ty Tryd.prog 42 (TypeDesc.func #[61] #[] false) 1 8 Value.nilFunc := ⟨Tryd.underlying42, Tryd.t42, rfl, rfl, rfl, rfl⟩
instance ty43 : Ty Tryd.prog 43 (TypeDesc.pointer 60) 1 8 (Value.pointer none) := ⟨Tryd.underlying43, Tryd.t43, rfl, rfl, rfl, rfl⟩
instance ty44 : Ty Tryd.prog 44 (TypeDesc.func #[9] #[43] false) 1 8 Value.nilFunc := ⟨Tryd.underlying44, Tryd.t44, rfl, rfl, rfl, rfl⟩
instance ty45 : Ty Tryd.prog 45 (TypeDesc.func #[] #[42] false) 1 8 Value.nilFunc := ⟨Tryd.underlying45, Tryd.t45, rfl, rfl, rfl, rfl⟩
instance ty46 : Ty Tryd.prog 46 (TypeDesc.func #[23, 23, 47] #[4] false) 1 8 Value.nilFunc := ⟨Tryd.underlying46, Tryd.t46, rfl, rfl, rfl, rfl⟩
instance ty47 : Ty Tryd.prog 47 (TypeDesc.func #[33, 33] #[4] false) 1 8 Value.nilFunc := ⟨Tryd.underlying47, Tryd.t47, rfl, rfl, rfl, rfl⟩
instance ty48 : Ty Tryd.prog 48 (TypeDesc.func #[9] #[9] false) 1 8 Value.nilFunc := ⟨Tryd.underlying48, Tryd.t48, rfl, rfl, rfl, rfl⟩
instance ty49 : Ty Tryd.prog 49 (TypeDesc.func #[5] #[4] false) 1 8 Value.nilFunc := ⟨Tryd.underlying49, Tryd.t49, rfl, rfl, rfl, rfl⟩
instance ty50 : Ty Tryd.prog 50 (TypeDesc.func #[9, 3] #[3] false) 1 8 Value.nilFunc := ⟨Tryd.underlying50, Tryd.t50, rfl, rfl, rfl, rfl⟩
instance ty51 : Ty Tryd.prog 51 (TypeDesc.slice 9) 1 24 (Value.slice none 0 0) := ⟨Tryd.underlying51, Tryd.t51, rfl, rfl, rfl, rfl⟩
instance ty52 : Ty Tryd.prog 52 (TypeDesc.func #[51, 9] #[9] false) 1 8 Value.nilFunc := ⟨Tryd.underlying52, Tryd.t52, rfl, rfl, rfl, rfl⟩
instance ty53 : Ty Tryd.prog 53 (TypeDesc.func #[33] #[9] false) 1 8 Value.nilFunc := ⟨Tryd.underlying53, Tryd.t53, rfl, rfl, rfl, rfl⟩
instance ty54 : Ty Tryd.prog 54 (TypeDesc.func #[9, 9] #[3] false) 1 8 Value.nilFunc := ⟨Tryd.underlying54, Tryd.t54, rfl, rfl, rfl, rfl⟩
instance ty55 : Ty Tryd.prog 55 (TypeDesc.int IntKind.u64) 1 8 (Value.int IntKind.u64 0) := ⟨Tryd.underlying55, Tryd.t55, rfl, rfl, rfl, rfl⟩
instance ty56 : Ty Tryd.prog 56 (TypeDesc.array 256 3) 256 2048 (Value.agg Tryd.zeroCells56) := ⟨Tryd.underlying56, Tryd.t56, rfl, rfl, rfl, rfl⟩
instance ty57 : Ty Tryd.prog 57 (TypeDesc.func #[] #[56] false) 1 8 Value.nilFunc := ⟨Tryd.underlying57, Tryd.t57, rfl, rfl, rfl, rfl⟩
instance ty58 : Ty Tryd.prog 58 (TypeDesc.func #[] #[51] false) 1 8 Value.nilFunc := ⟨Tryd.underlying58, Tryd.t58, rfl, rfl, rfl, rfl⟩
instance ty59 : Ty Tryd.prog 59 (TypeDesc.struct
      #[{ name := "s", type := 9, offset := 0, embedded := false, tag := "", pkgPath := "wireglass/lex",
          byteOffset := 0 },
        { name := "at", type := 3, offset := 1, embedded := false, tag := "", pkgPath := "wireglass/lex",
          byteOffset := 16 },
        { name := "class", type := 56, offset := 2, embedded := false, tag := "", pkgPath := "wireglass/lex",
          byteOffset := 24 },
        { name := "signs", type := 51, offset := 258, embedded := false, tag := "", pkgPath := "wireglass/lex",
          byteOffset := 2072 }]) 259 2096 (Value.agg Tryd.zeroCells59) := ⟨Tryd.underlying59, Tryd.t59, rfl, rfl, rfl, rfl⟩
instance ty60 : Ty Tryd.prog 60 (TypeDesc.struct
      #[{ name := "s", type := 9, offset := 0, embedded := false, tag := "", pkgPath := "wireglass/lex",
          byteOffset := 0 },
        { name := "at", type := 3, offset := 1, embedded := false, tag := "", pkgPath := "wireglass/lex",
          byteOffset := 16 },
        { name := "class", type := 56, offset := 2, embedded := false, tag := "", pkgPath := "wireglass/lex",
          byteOffset := 24 },
        { name := "signs", type := 51, offset := 258, embedded := false, tag := "", pkgPath := "wireglass/lex",
          byteOffset := 2072 }]) 259 2096 (Value.agg Tryd.zeroCells60) := ⟨Tryd.underlying60, Tryd.t60, rfl, rfl, rfl, rfl⟩
instance ty61 : Ty Tryd.prog 61 (TypeDesc.func #[33, 4] #[4] false) 1 8 Value.nilFunc := ⟨Tryd.underlying61, Tryd.t61, rfl, rfl, rfl, rfl⟩
instance ty62 : Ty Tryd.prog 62 (TypeDesc.tuple #[33, 4]) 1 0 (Value.tuple
        #[Value.agg
            #[Value.int IntKind.i64 0, Value.int IntKind.i64 0, Value.int IntKind.i64 0, Value.string { data := #[] }],
          Value.bool false]) := ⟨Tryd.underlying62, Tryd.t62, rfl, rfl, rfl, rfl⟩
instance ty63 : Ty Tryd.prog 63 (TypeDesc.func #[] #[33, 4] false) 1 8 Value.nilFunc := ⟨Tryd.underlying63, Tryd.t63, rfl, rfl, rfl, rfl⟩
instance ty64 : Ty Tryd.prog 64 (TypeDesc.func #[9, 3] #[5] false) 1 8 Value.nilFunc := ⟨Tryd.underlying64, Tryd.t64, rfl, rfl, rfl, rfl⟩
instance ty65 : Ty Tryd.prog 65 (TypeDesc.tuple #[33, 3, 4]) 1 0 (Value.tuple
        #[Value.agg
            #[Value.int IntKind.i64 0, Value.int IntKind.i64 0, Value.int IntKind.i64 0, Value.string { data := #[] }],
          Value.int IntKind.i64 0, Value.bool false]) := ⟨Tryd.underlying65, Tryd.t65, rfl, rfl, rfl, rfl⟩
instance ty66 : Ty Tryd.prog 66 (TypeDesc.func #[9, 3] #[33, 3, 4] false) 1 8 Value.nilFunc := ⟨Tryd.underlying66, Tryd.t66, rfl, rfl, rfl, rfl⟩
instance ty67 : Ty Tryd.prog 67 (TypeDesc.pointer 70) 1 8 (Value.pointer none) := ⟨Tryd.underlying67, Tryd.t67, rfl, rfl, rfl, rfl⟩
instance ty68 : Ty Tryd.prog 68 (TypeDesc.slice 5) 1 24 (Value.slice none 0 0) := ⟨Tryd.underlying68, Tryd.t68, rfl, rfl, rfl, rfl⟩
instance ty69 : Ty Tryd.prog 69 (TypeDesc.struct
      #[{ name := "addr", type := 67, offset := 0, embedded := false, tag := "", pkgPath := "strings",
          byteOffset := 0 },
        { name := "buf", type := 68, offset := 1, embedded := false, tag := "", pkgPath := "strings",
          byteOffset := 8 }]) 2 32 (Value.agg #[Value.pointer none, Value.slice none 0 0]) := ⟨Tryd.underlying69, Tryd.t69, rfl, rfl, rfl, rfl⟩
instance ty70 : Ty Tryd.prog 70 (TypeDesc.struct
      #[{ name := "addr", type := 67, offset := 0, embedded := false, tag := "", pkgPath := "strings",
          byteOffset := 0 },
        { name := "buf", type := 68, offset := 1, embedded := false, tag := "", pkgPath := "strings",
          byteOffset := 8 }]) 2 32 (Value.agg #[Value.pointer none, Value.slice none 0 0]) := ⟨Tryd.underlying70, Tryd.t70, rfl, rfl, rfl, rfl⟩
instance ty71 : Ty Tryd.prog 71 (TypeDesc.interface #[("Error", 77)]) 1 16 Value.nilIface := ⟨Tryd.underlying71, Tryd.t71, rfl, rfl, rfl, rfl⟩
instance ty72 : Ty Tryd.prog 72 (TypeDesc.interface #[("Error", 77)]) 1 16 Value.nilIface := ⟨Tryd.underlying72, Tryd.t72, rfl, rfl, rfl, rfl⟩
instance ty73 : Ty Tryd.prog 73 (TypeDesc.func #[5] #[72] false) 1 8 Value.nilFunc := ⟨Tryd.underlying73, Tryd.t73, rfl, rfl, rfl, rfl⟩
instance ty74 : Ty Tryd.prog 74 (TypeDesc.tuple #[3, 72]) 1 0 (Value.tuple #[Value.int IntKind.i64 0, Value.nilIface]) := ⟨Tryd.underlying74, Tryd.t74, rfl, rfl, rfl, rfl⟩
instance ty75 : Ty Tryd.prog 75 (TypeDesc.func #[9] #[3, 72] false) 1 8 Value.nilFunc := ⟨Tryd.underlying75, Tryd.t75, rfl, rfl, rfl, rfl⟩
instance ty76 : Ty Tryd.prog 76 (TypeDesc.func #[5] #[9] false) 1 8 Value.nilFunc := ⟨Tryd.underlying76, Tryd.t76, rfl, rfl, rfl, rfl⟩
instance ty77 : Ty Tryd.prog 77 (TypeDesc.func #[] #[9] false) 1 8 Value.nilFunc := ⟨Tryd.underlying77, Tryd.t77, rfl, rfl, rfl, rfl⟩
instance ty78 : Ty Tryd.prog 78 (TypeDesc.func #[3] #[] false) 1 8 Value.nilFunc := ⟨Tryd.underlying78, Tryd.t78, rfl, rfl, rfl, rfl⟩
instance ty79 : Ty Tryd.prog 79 (TypeDesc.func #[9] #[3] false) 1 8 Value.nilFunc := ⟨Tryd.underlying79, Tryd.t79, rfl, rfl, rfl, rfl⟩
instance ty80 : Ty Tryd.prog 80 (TypeDesc.func #[9, 5] #[3] false) 1 8 Value.nilFunc := ⟨Tryd.underlying80, Tryd.t80, rfl, rfl, rfl, rfl⟩
instance ty81 : Ty Tryd.prog 81 (TypeDesc.func #[9] #[51] false) 1 8 Value.nilFunc := ⟨Tryd.underlying81, Tryd.t81, rfl, rfl, rfl, rfl⟩
instance ty82 : Ty Tryd.prog 82 (TypeDesc.func #[3, 97] #[3] true) 1 8 Value.nilFunc := ⟨Tryd.underlying82, Tryd.t82, rfl, rfl, rfl, rfl⟩
instance ty83 : Ty Tryd.prog 83 (TypeDesc.func #[3, 97] #[4] true) 1 8 Value.nilFunc := ⟨Tryd.underlying83, Tryd.t83, rfl, rfl, rfl, rfl⟩
instance ty84 : Ty Tryd.prog 84 (TypeDesc.tuple #[3, 3, 4]) 1 0 (Value.tuple #[Value.int IntKind.i64 0, Value.int IntKind.i64 0, Value.bool false]) := ⟨Tryd.underlying84, Tryd.t84, rfl, rfl, rfl, rfl⟩
instance ty85 : Ty Tryd.prog 85 (TypeDesc.func #[9, 3] #[3, 3, 4] false) 1 8 Value.nilFunc := ⟨Tryd.underlying85, Tryd.t85, rfl, rfl, rfl, rfl⟩
instance ty86 : Ty Tryd.prog 86 (TypeDesc.tuple #[9, 3, 4]) 1 0 (Value.tuple #[Value.string { data := #[] }, Value.int IntKind.i64 0, Value.bool false]) := ⟨Tryd.underlying86, Tryd.t86, rfl, rfl, rfl, rfl⟩
instance ty87 : Ty Tryd.prog 87 (TypeDesc.func #[9, 3] #[9, 3, 4] false) 1 8 Value.nilFunc := ⟨Tryd.underlying87, Tryd.t87, rfl, rfl, rfl, rfl⟩
instance ty88 : Ty Tryd.prog 88 (TypeDesc.func #[9, 3] #[9] false) 1 8 Value.nilFunc := ⟨Tryd.underlying88, Tryd.t88, rfl, rfl, rfl, rfl⟩
instance ty89 : Ty Tryd.prog 89 (TypeDesc.pointer 5) 1 8 (Value.pointer none) := ⟨Tryd.underlying89, Tryd.t89, rfl, rfl, rfl, rfl⟩
instance ty90 : Ty Tryd.prog 90 (TypeDesc.int IntKind.u32) 1 4 (Value.int IntKind.u32 0) := ⟨Tryd.underlying90, Tryd.t90, rfl, rfl, rfl, rfl⟩
instance ty91 : Ty Tryd.prog 91 (TypeDesc.tuple #[90, 90]) 1 0 (Value.tuple #[Value.int IntKind.u32 0, Value.int IntKind.u32 0]) := ⟨Tryd.underlying91, Tryd.t91, rfl, rfl, rfl, rfl⟩
instance ty92 : Ty Tryd.prog 92 (TypeDesc.func #[9] #[90, 90] false) 1 8 Value.nilFunc := ⟨Tryd.underlying92, Tryd.t92, rfl, rfl, rfl, rfl⟩
instance ty93 : Ty Tryd.prog 93 (TypeDesc.func #[2, 3] #[9] false) 1 8 Value.nilFunc := ⟨Tryd.underlying93, Tryd.t93, rfl, rfl, rfl, rfl⟩
instance ty94 : Ty Tryd.prog 94 (TypeDesc.array 256 5) 256 256 (Value.agg Tryd.zeroCells94) := ⟨Tryd.underlying94, Tryd.t94, rfl, rfl, rfl, rfl⟩
instance ty95 : Ty Tryd.prog 95 (TypeDesc.func #[9, 96] #[51] false) 1 8 Value.nilFunc := ⟨Tryd.underlying95, Tryd.t95, rfl, rfl, rfl, rfl⟩
instance ty96 : Ty Tryd.prog 96 (TypeDesc.func #[21] #[4] false) 1 8 Value.nilFunc := ⟨Tryd.underlying96, Tryd.t96, rfl, rfl, rfl, rfl⟩
instance ty97 : Ty Tryd.prog 97 (TypeDesc.slice 3) 1 24 (Value.slice none 0 0) := ⟨Tryd.underlying97, Tryd.t97, rfl, rfl, rfl, rfl⟩
instance ty98 : Ty Tryd.prog 98 (TypeDesc.func #[97, 3] #[4] false) 1 8 Value.nilFunc := ⟨Tryd.underlying98, Tryd.t98, rfl, rfl, rfl, rfl⟩
instance ty99 : Ty Tryd.prog 99 (TypeDesc.func #[5] #[3] false) 1 8 Value.nilFunc := ⟨Tryd.underlying99, Tryd.t99, rfl, rfl, rfl, rfl⟩
instance ty100 : Ty Tryd.prog 100 (TypeDesc.tuple #[3, 4]) 1 0 (Value.tuple #[Value.int IntKind.i64 0, Value.bool false]) := ⟨Tryd.underlying100, Tryd.t100, rfl, rfl, rfl, rfl⟩
instance ty101 : Ty Tryd.prog 101 (TypeDesc.func #[9, 3] #[3, 4] false) 1 8 Value.nilFunc := ⟨Tryd.underlying101, Tryd.t101, rfl, rfl, rfl, rfl⟩
instance ty102 : Ty Tryd.prog 102 (TypeDesc.tuple #[5, 4]) 1 0 (Value.tuple #[Value.int IntKind.u8 0, Value.bool false]) := ⟨Tryd.underlying102, Tryd.t102, rfl, rfl, rfl, rfl⟩
instance ty103 : Ty Tryd.prog 103 (TypeDesc.func #[] #[5, 4] false) 1 8 Value.nilFunc := ⟨Tryd.underlying103, Tryd.t103, rfl, rfl, rfl, rfl⟩
instance ty104 : Ty Tryd.prog 104 TypeDesc.unsafePointer 1 8 (Value.pointer none) := ⟨Tryd.underlying104, Tryd.t104, rfl, rfl, rfl, rfl⟩
instance ty105 : Ty Tryd.prog 105 (TypeDesc.func #[104] #[104] false) 1 8 Value.nilFunc := ⟨Tryd.underlying105, Tryd.t105, rfl, rfl, rfl, rfl⟩
instance ty106 : Ty Tryd.prog 106 (TypeDesc.func #[3] #[68] false) 1 8 Value.nilFunc := ⟨Tryd.underlying106, Tryd.t106, rfl, rfl, rfl, rfl⟩
instance ty107 : Ty Tryd.prog 107 (TypeDesc.func #[3] #[3] false) 1 8 Value.nilFunc := ⟨Tryd.underlying107, Tryd.t107, rfl, rfl, rfl, rfl⟩
instance ty108 : Ty Tryd.prog 108 (TypeDesc.array 24 5) 24 24 (Value.agg
        #[Value.int IntKind.u8 0, Value.int IntKind.u8 0, Value.int IntKind.u8 0, Value.int IntKind.u8 0,
          Value.int IntKind.u8 0, Value.int IntKind.u8 0, Value.int IntKind.u8 0, Value.int IntKind.u8 0,
          Value.int IntKind.u8 0, Value.int IntKind.u8 0, Value.int IntKind.u8 0, Value.int IntKind.u8 0,
          Value.int IntKind.u8 0, Value.int IntKind.u8 0, Value.int IntKind.u8 0, Value.int IntKind.u8 0,
          Value.int IntKind.u8 0, Value.int IntKind.u8 0, Value.int IntKind.u8 0, Value.int IntKind.u8 0,
          Value.int IntKind.u8 0, Value.int IntKind.u8 0, Value.int IntKind.u8 0, Value.int IntKind.u8 0]) := ⟨Tryd.underlying108, Tryd.t108, rfl, rfl, rfl, rfl⟩
instance ty109 : Ty Tryd.prog 109 (TypeDesc.int IntKind.u64) 1 8 (Value.int IntKind.u64 0) := ⟨Tryd.underlying109, Tryd.t109, rfl, rfl, rfl, rfl⟩
instance ty110 : Ty Tryd.prog 110 (TypeDesc.func #[109] #[3] false) 1 8 Value.nilFunc := ⟨Tryd.underlying110, Tryd.t110, rfl, rfl, rfl, rfl⟩
instance ty111 : Ty Tryd.prog 111 (TypeDesc.func #[68, 109] #[] false) 1 8 Value.nilFunc := ⟨Tryd.underlying111, Tryd.t111, rfl, rfl, rfl, rfl⟩
instance ty112 : Ty Tryd.prog 112 (TypeDesc.tuple #[68, 9]) 1 0 (Value.tuple #[Value.slice none 0 0, Value.string { data := #[] }]) := ⟨Tryd.underlying112, Tryd.t112, rfl, rfl, rfl, rfl⟩
instance ty113 : Ty Tryd.prog 113 (TypeDesc.func #[68, 109, 3, 4, 4] #[68, 9] false) 1 8 Value.nilFunc := ⟨Tryd.underlying113, Tryd.t113, rfl, rfl, rfl, rfl⟩
instance ty114 : Ty Tryd.prog 114 (TypeDesc.slice 116) 1 24 (Value.slice none 0 0) := ⟨Tryd.underlying114, Tryd.t114, rfl, rfl, rfl, rfl⟩
instance ty115 : Ty Tryd.prog 115 (TypeDesc.struct
      #[{ name := "start", type := 3, offset := 0, embedded := false, tag := "", pkgPath := "strings",
          byteOffset := 0 },
        { name := "end", type := 3, offset := 1, embedded := false, tag := "", pkgPath := "strings", byteOffset := 8 }]) 2 16 (Value.agg #[Value.int IntKind.i64 0, Value.int IntKind.i64 0]) := ⟨Tryd.underlying115, Tryd.t115, rfl, rfl, rfl, rfl⟩
instance ty116 : Ty Tryd.prog 116 (TypeDesc.struct
      #[{ name := "start", type := 3, offset := 0, embedded := false, tag := "", pkgPath := "strings",
          byteOffset := 0 },
        { name := "end", type := 3, offset := 1, embedded := false, tag := "", pkgPath := "strings", byteOffset := 8 }]) 2 16 (Value.agg #[Value.int IntKind.i64 0, Value.int IntKind.i64 0]) := ⟨Tryd.underlying116, Tryd.t116, rfl, rfl, rfl, rfl⟩
instance ty117 : Ty Tryd.prog 117 (TypeDesc.func #[118, 21] #[4] false) 1 8 Value.nilFunc := ⟨Tryd.underlying117, Tryd.t117, rfl, rfl, rfl, rfl⟩
instance ty118 : Ty Tryd.prog 118 (TypeDesc.pointer 128) 1 8 (Value.pointer none) := ⟨Tryd.underlying118, Tryd.t118, rfl, rfl, rfl, rfl⟩
instance ty119 : Ty Tryd.prog 119 (TypeDesc.func #[97, 3] #[3] false) 1 8 Value.nilFunc := ⟨Tryd.underlying119, Tryd.t119, rfl, rfl, rfl, rfl⟩
instance ty120 : Ty Tryd.prog 120 (TypeDesc.func #[4] #[3] false) 1 8 Value.nilFunc := ⟨Tryd.underlying120, Tryd.t120, rfl, rfl, rfl, rfl⟩
instance ty121 : Ty Tryd.prog 121 (TypeDesc.array 20 109) 20 160 (Value.agg
        #[Value.int IntKind.u64 0, Value.int IntKind.u64 0, Value.int IntKind.u64 0, Value.int IntKind.u64 0,
          Value.int IntKind.u64 0, Value.int IntKind.u64 0, Value.int IntKind.u64 0, Value.int IntKind.u64 0,
          Value.int IntKind.u64 0, Value.int IntKind.u64 0, Value.int IntKind.u64 0, Value.int IntKind.u64 0,
          Value.int IntKind.u64 0, Value.int IntKind.u64 0, Value.int IntKind.u64 0, Value.int IntKind.u64 0,
          Value.int IntKind.u64 0, Value.int IntKind.u64 0, Value.int IntKind.u64 0, Value.int IntKind.u64 0]) := ⟨Tryd.underlying121, Tryd.t121, rfl, rfl, rfl, rfl⟩
instance ty122 : Ty Tryd.prog 122 (TypeDesc.array 65 5) 65 65 (Value.agg Tryd.zeroCells122) := ⟨Tryd.underlying122, Tryd.t122, rfl, rfl, rfl, rfl⟩
instance ty123 : Ty Tryd.prog 123 (TypeDesc.func #[3] #[4] false) 1 8 Value.nilFunc := ⟨Tryd.underlying123, Tryd.t123, rfl, rfl, rfl, rfl⟩
instance ty124 : Ty Tryd.prog 124 (TypeDesc.func #[55] #[3] false) 1 8 Value.nilFunc := ⟨Tryd.underlying124, Tryd.t124, rfl, rfl, rfl, rfl⟩
instance ty125 : Ty Tryd.prog 125 (TypeDesc.slice 131) 1 24 (Value.slice none 0 0) := ⟨Tryd.underlying125, Tryd.t125, rfl, rfl, rfl, rfl⟩
instance ty126 : Ty Tryd.prog 126 (TypeDesc.slice 134) 1 24 (Value.slice none 0 0) := ⟨Tryd.underlying126, Tryd.t126, rfl, rfl, rfl, rfl⟩
instance ty127 : Ty Tryd.prog 127 (TypeDesc.struct
      #[{ name := "R16", type := 125, offset := 0, embedded := false, tag := "", pkgPath := "", byteOffset := 0 },
        { name := "R32", type := 126, offset := 1, embedded := false, tag := "", pkgPath := "", byteOffset := 24 },
        { name := "LatinOffset", type := 3, offset := 2, embedded := false, tag := "", pkgPath := "",
          byteOffset := 48 }]) 3 56 (Value.agg #[Value.slice none 0 0, Value.slice none 0 0, Value.int IntKind.i64 0]) := ⟨Tryd.underlying127, Tryd.t127, rfl, rfl, rfl, rfl⟩
instance ty128 : Ty Tryd.prog 128 (TypeDesc.struct
      #[{ name := "R16", type := 125, offset := 0, embedded := false, tag := "", pkgPath := "", byteOffset := 0 },
        { name := "R32", type := 126, offset := 1, embedded := false, tag := "", pkgPath := "", byteOffset := 24 },
        { name := "LatinOffset", type := 3, offset := 2, embedded := false, tag := "", pkgPath := "",
          byteOffset := 48 }]) 3 56 (Value.agg #[Value.slice none 0 0, Value.slice none 0 0, Value.int IntKind.i64 0]) := ⟨Tryd.underlying128, Tryd.t128, rfl, rfl, rfl, rfl⟩
instance ty129 : Ty Tryd.prog 129 (TypeDesc.int IntKind.u16) 1 2 (Value.int IntKind.u16 0) := ⟨Tryd.underlying129, Tryd.t129, rfl, rfl, rfl, rfl⟩
instance ty130 : Ty Tryd.prog 130 (TypeDesc.struct
      #[{ name := "Lo", type := 129, offset := 0, embedded := false, tag := "", pkgPath := "", byteOffset := 0 },
        { name := "Hi", type := 129, offset := 1, embedded := false, tag := "", pkgPath := "", byteOffset := 2 },
        { name := "Stride", type := 129, offset := 2, embedded := false, tag := "", pkgPath := "", byteOffset := 4 }]) 3 6 (Value.agg #[Value.int IntKind.u16 0, Value.int IntKind.u16 0, Value.int IntKind.u16 0]) := ⟨Tryd.underlying130, Tryd.t130, rfl, rfl, rfl, rfl⟩
instance ty131 : Ty Tryd.prog 131 (TypeDesc.struct
      #[{ name := "Lo", type := 129, offset := 0, embedded := false, tag := "", pkgPath := "", byteOffset := 0 },
        { name := "Hi", type := 129, offset := 1, embedded := false, tag := "", pkgPath := "", byteOffset := 2 },
        { name := "Stride", type := 129, offset := 2, embedded := false, tag := "", pkgPath := "", byteOffset := 4 }]) 3 6 (Value.agg #[Value.int IntKind.u16 0, Value.int IntKind.u16 0, Value.int IntKind.u16 0]) := ⟨Tryd.underlying131, Tryd.t131, rfl, rfl, rfl, rfl⟩
instance ty132 : Ty Tryd.prog 132 (TypeDesc.func #[125, 129] #[4] false) 1 8 Value.nilFunc := ⟨Tryd.underlying132, Tryd.t132, rfl, rfl, rfl, rfl⟩
instance ty133 : Ty Tryd.prog 133 (TypeDesc.struct
      #[{ name := "Lo", type := 90, offset := 0, embedded := false, tag := "", pkgPath := "", byteOffset := 0 },
        { name := "Hi", type := 90, offset := 1, embedded := false, tag := "", pkgPath := "", byteOffset := 4 },
        { name := "Stride", type := 90, offset := 2, embedded := false, tag := "", pkgPath := "", byteOffset := 8 }]) 3 12 (Value.agg #[Value.int IntKind.u32 0, Value.int IntKind.u32 0, Value.int IntKind.u32 0]) := ⟨Tryd.underlying133, Tryd.t133, rfl, rfl, rfl, rfl⟩
instance ty134 : Ty Tryd.prog 134 (TypeDesc.struct
      #[{ name := "Lo", type := 90, offset := 0, embedded := false, tag := "", pkgPath := "", byteOffset := 0 },
        { name := "Hi", type := 90, offset := 1, embedded := false, tag := "", pkgPath := "", byteOffset := 4 },
        { name := "Stride", type := 90, offset := 2, embedded := false, tag := "", pkgPath := "", byteOffset := 8 }]) 3 12 (Value.agg #[Value.int IntKind.u32 0, Value.int IntKind.u32 0, Value.int IntKind.u32 0]) := ⟨Tryd.underlying134, Tryd.t134, rfl, rfl, rfl, rfl⟩
instance ty135 : Ty Tryd.prog 135 (TypeDesc.func #[126, 90] #[4] false) 1 8 Value.nilFunc := ⟨Tryd.underlying135, Tryd.t135, rfl, rfl, rfl, rfl⟩
instance ty136 : Ty Tryd.prog 136 (TypeDesc.func #[90] #[3] false) 1 8 Value.nilFunc := ⟨Tryd.underlying136, Tryd.t136, rfl, rfl, rfl, rfl⟩
instance ty137 : Ty Tryd.prog 137 (TypeDesc.pointer 131) 1 8 (Value.pointer none) := ⟨Tryd.underlying137, Tryd.t137, rfl, rfl, rfl, rfl⟩
instance ty138 : Ty Tryd.prog 138 (TypeDesc.pointer 134) 1 8 (Value.pointer none) := ⟨Tryd.underlying138, Tryd.t138, rfl, rfl, rfl, rfl⟩
instance ty139 : Ty Tryd.prog 139 (TypeDesc.array 32 5) 32 32 (Value.agg
        #[Value.int IntKind.u8 0, Value.int IntKind.u8 0, Value.int IntKind.u8 0, Value.int IntKind.u8 0,
          Value.int IntKind.u8 0, Value.int IntKind.u8 0, Value.int IntKind.u8 0, Value.int IntKind.u8 0,
          Value.int IntKind.u8 0, Value.int IntKind.u8 0, Value.int IntKind.u8 0, Value.int IntKind.u8 0,
          Value.int IntKind.u8 0, Value.int IntKind.u8 0, Value.int IntKind.u8 0, Value.int IntKind.u8 0,
          Value.int IntKind.u8 0, Value.int IntKind.u8 0, Value.int IntKind.u8 0, Value.int IntKind.u8 0,
          Value.int IntKind.u8 0, Value.int IntKind.u8 0, Value.int IntKind.u8 0, Value.int IntKind.u8 0,
          Value.int IntKind.u8 0, Value.int IntKind.u8 0, Value.int IntKind.u8 0, Value.int IntKind.u8 0,
          Value.int IntKind.u8 0, Value.int IntKind.u8 0, Value.int IntKind.u8 0, Value.int IntKind.u8 0]) := ⟨Tryd.underlying139, Tryd.t139, rfl, rfl, rfl, rfl⟩
instance ty140 : Ty Tryd.prog 140 (TypeDesc.array 64 5) 64 64 (Value.agg
        #[Value.int IntKind.u8 0, Value.int IntKind.u8 0, Value.int IntKind.u8 0, Value.int IntKind.u8 0,
          Value.int IntKind.u8 0, Value.int IntKind.u8 0, Value.int IntKind.u8 0, Value.int IntKind.u8 0,
          Value.int IntKind.u8 0, Value.int IntKind.u8 0, Value.int IntKind.u8 0, Value.int IntKind.u8 0,
          Value.int IntKind.u8 0, Value.int IntKind.u8 0, Value.int IntKind.u8 0, Value.int IntKind.u8 0,
          Value.int IntKind.u8 0, Value.int IntKind.u8 0, Value.int IntKind.u8 0, Value.int IntKind.u8 0,
          Value.int IntKind.u8 0, Value.int IntKind.u8 0, Value.int IntKind.u8 0, Value.int IntKind.u8 0,
          Value.int IntKind.u8 0, Value.int IntKind.u8 0, Value.int IntKind.u8 0, Value.int IntKind.u8 0,
          Value.int IntKind.u8 0, Value.int IntKind.u8 0, Value.int IntKind.u8 0, Value.int IntKind.u8 0,
          Value.int IntKind.u8 0, Value.int IntKind.u8 0, Value.int IntKind.u8 0, Value.int IntKind.u8 0,
          Value.int IntKind.u8 0, Value.int IntKind.u8 0, Value.int IntKind.u8 0, Value.int IntKind.u8 0,
          Value.int IntKind.u8 0, Value.int IntKind.u8 0, Value.int IntKind.u8 0, Value.int IntKind.u8 0,
          Value.int IntKind.u8 0, Value.int IntKind.u8 0, Value.int IntKind.u8 0, Value.int IntKind.u8 0,
          Value.int IntKind.u8 0, Value.int IntKind.u8 0, Value.int IntKind.u8 0, Value.int IntKind.u8 0,
          Value.int IntKind.u8 0, Value.int IntKind.u8 0, Value.int IntKind.u8 0, Value.int IntKind.u8 0,
          Value.int IntKind.u8 0, Value.int IntKind.u8 0, Value.int IntKind.u8 0, Value.int IntKind.u8 0,
          Value.int IntKind.u8 0, Value.int IntKind.u8 0, Value.int IntKind.u8 0, Value.int IntKind.u8 0]) := ⟨Tryd.underlying140, Tryd.t140, rfl, rfl, rfl, rfl⟩
instance ty141 : Ty Tryd.prog 141 (TypeDesc.struct
      #[{ name := "_interface", type := 17, offset := 0, embedded := false, tag := "", pkgPath := "runtime",
          byteOffset := 0 },
        { name := "concrete", type := 17, offset := 1, embedded := false, tag := "", pkgPath := "runtime",
          byteOffset := 8 },
        { name := "asserted", type := 17, offset := 2, embedded := false, tag := "", pkgPath := "runtime",
          byteOffset := 16 },
        { name := "missingMethod", type := 9, offset := 3, embedded := false, tag := "", pkgPath := "runtime",
          byteOffset := 24 }]) 4 40 (Value.agg #[Value.pointer none, Value.pointer none, Value.pointer none, Value.string { data := #[] }]) := ⟨Tryd.underlying141, Tryd.t141, rfl, rfl, rfl, rfl⟩
instance ty142 : Ty Tryd.prog 142 (TypeDesc.struct
      #[{ name := "_interface", type := 17, offset := 0, embedded := false, tag := "", pkgPath := "runtime",
          byteOffset := 0 },
        { name := "concrete", type := 17, offset := 1, embedded := false, tag := "", pkgPath := "runtime",
          byteOffset := 8 },
        { name := "asserted", type := 17, offset := 2, embedded := false, tag := "", pkgPath := "runtime",
          byteOffset := 16 },
        { name := "missingMethod", type := 9, offset := 3, embedded := false, tag := "", pkgPath := "runtime",
          byteOffset := 24 }]) 4 40 (Value.agg #[Value.pointer none, Value.pointer none, Value.pointer none, Value.string { data := #[] }]) := ⟨Tryd.underlying142, Tryd.t142, rfl, rfl, rfl, rfl⟩
instance ty143 : Ty Tryd.prog 143 (TypeDesc.array 0 16) 0 0 (Value.agg #[]) := ⟨Tryd.underlying143, Tryd.t143, rfl, rfl, rfl, rfl⟩
instance ty144 : Ty Tryd.prog 144 (TypeDesc.struct
      #[{ name := "_", type := 143, offset := 0, embedded := false, tag := "", pkgPath := "runtime", byteOffset := 0 }]) 0 0 (Value.agg #[]) := ⟨Tryd.underlying144, Tryd.t144, rfl, rfl, rfl, rfl⟩
instance ty145 : Ty Tryd.prog 145 (TypeDesc.struct
      #[{ name := "_", type := 143, offset := 0, embedded := false, tag := "", pkgPath := "runtime", byteOffset := 0 }]) 0 0 (Value.agg #[]) := ⟨Tryd.underlying145, Tryd.t145, rfl, rfl, rfl, rfl⟩
instance ty146 : Ty Tryd.prog 146 (TypeDesc.func #[] #[3] false) 1 8 Value.nilFunc := ⟨Tryd.underlying146, Tryd.t146, rfl, rfl, rfl, rfl⟩
instance ty147 : Ty Tryd.prog 147 (TypeDesc.int IntKind.u8) 1 1 (Value.int IntKind.u8 0) := ⟨Tryd.underlying147, Tryd.t147, rfl, rfl, rfl, rfl⟩
instance ty148 : Ty Tryd.prog 148 (TypeDesc.int IntKind.u8) 1 1 (Value.int IntKind.u8 0) := ⟨Tryd.underlying148, Tryd.t148, rfl, rfl, rfl, rfl⟩
instance ty149 : Ty Tryd.prog 149 (TypeDesc.func #[104, 104] #[4] false) 1 8 Value.nilFunc := ⟨Tryd.underlying149, Tryd.t149, rfl, rfl, rfl, rfl⟩
instance ty150 : Ty Tryd.prog 150 (TypeDesc.int IntKind.i32) 1 4 (Value.int IntKind.i32 0) := ⟨Tryd.underlying150, Tryd.t150, rfl, rfl, rfl, rfl⟩
instance ty151 : Ty Tryd.prog 151 (TypeDesc.int IntKind.i32) 1 4 (Value.int IntKind.i32 0) := ⟨Tryd.underlying151, Tryd.t151, rfl, rfl, rfl, rfl⟩
instance ty152 : Ty Tryd.prog 152 (TypeDesc.struct
      #[{ name := "Size_", type := 12, offset := 0, embedded := false, tag := "", pkgPath := "", byteOffset := 0 },
        { name := "PtrBytes", type := 12, offset := 1, embedded := false, tag := "", pkgPath := "", byteOffset := 8 },
        { name := "Hash", type := 90, offset := 2, embedded := false, tag := "", pkgPath := "", byteOffset := 16 },
        { name := "TFlag", type := 147, offset := 3, embedded := false, tag := "", pkgPath := "", byteOffset := 20 },
        { name := "Align_", type := 5, offset := 4, embedded := false, tag := "", pkgPath := "", byteOffset := 21 },
        { name := "FieldAlign_", type := 5, offset := 5, embedded := false, tag := "", pkgPath := "",
          byteOffset := 22 },
        { name := "Kind_", type := 148, offset := 6, embedded := false, tag := "", pkgPath := "", byteOffset := 23 },
        { name := "Equal", type := 149, offset := 7, embedded := false, tag := "", pkgPath := "", byteOffset := 24 },
        { name := "GCData", type := 89, offset := 8, embedded := false, tag := "", pkgPath := "", byteOffset := 32 },
        { name := "Str", type := 150, offset := 9, embedded := false, tag := "", pkgPath := "", byteOffset := 40 },
        { name := "PtrToThis", type := 151, offset := 10, embedded := false, tag := "", pkgPath := "",
          byteOffset := 44 }]) 11 48 (Value.agg
        #[Value.int IntKind.u64 0, Value.int IntKind.u64 0, Value.int IntKind.u32 0, Value.int IntKind.u8 0,
          Value.int IntKind.u8 0, Value.int IntKind.u8 0, Value.int IntKind.u8 0, Value.nilFunc, Value.pointer none,
          Value.int IntKind.i32 0, Value.int IntKind.i32 0]) := ⟨Tryd.underlying152, Tryd.t152, rfl, rfl, rfl, rfl⟩
instance ty153 : Ty Tryd.prog 153 (TypeDesc.struct
      #[{ name := "Size_", type := 12, offset := 0, embedded := false, tag := "", pkgPath := "", byteOffset := 0 },
        { name := "PtrBytes", type := 12, offset := 1, embedded := false, tag := "", pkgPath := "", byteOffset := 8 },
        { name := "Hash", type := 90, offset := 2, embedded := false, tag := "", pkgPath := "", byteOffset := 16 },
        { name := "TFlag", type := 147, offset := 3, embedded := false, tag := "", pkgPath := "", byteOffset := 20 },
        { name := "Align_", type := 5, offset := 4, embedded := false, tag := "", pkgPath := "", byteOffset := 21 },
        { name := "FieldAlign_", type := 5, offset := 5, embedded := false, tag := "", pkgPath := "",
          byteOffset := 22 },
        { name := "Kind_", type := 148, offset := 6, embedded := false, tag := "", pkgPath := "", byteOffset := 23 },
        { name := "Equal", type := 149, offset := 7, embedded := false, tag := "", pkgPath := "", byteOffset := 24 },
        { name := "GCData", type := 89, offset := 8, embedded := false, tag := "", pkgPath := "", byteOffset := 32 },
        { name := "Str", type := 150, offset := 9, embedded := false, tag := "", pkgPath := "", byteOffset := 40 },
        { name := "PtrToThis", type := 151, offset := 10, embedded := false, tag := "", pkgPath := "",
          byteOffset := 44 }]) 11 48 (Value.agg
        #[Value.int IntKind.u64 0, Value.int IntKind.u64 0, Value.int IntKind.u32 0, Value.int IntKind.u8 0,
          Value.int IntKind.u8 0, Value.int IntKind.u8 0, Value.int IntKind.u8 0, Value.nilFunc, Value.pointer none,
          Value.int IntKind.i32 0, Value.int IntKind.i32 0]) := ⟨Tryd.underlying153, Tryd.t153, rfl, rfl, rfl, rfl⟩
instance fa7_0 : FieldAt Tryd.prog 7 0 0 := FieldAt.of (i := 0) Tryd.underlying7 rfl ty2 (by decide)
instance fo7_0 : FieldOf Tryd.prog 7 0 0 false 1 := FieldOf.of (i := 0) Tryd.underlying7 rfl ty2
instance fa7_1 : FieldAt Tryd.prog 7 1 1 := FieldAt.of (i := 1) Tryd.underlying7 rfl ty3 (by decide)
instance fo7_1 : FieldOf Tryd.prog 7 1 1 false 1 := FieldOf.of (i := 1) Tryd.underlying7 rfl ty3
instance fa7_2 : FieldAt Tryd.prog 7 2 2 := FieldAt.of (i := 2) Tryd.underlying7 rfl ty4 (by decide)
instance fo7_2 : FieldOf Tryd.prog 7 2 2 false 1 := FieldOf.of (i := 2) Tryd.underlying7 rfl ty4
instance fa7_3 : FieldAt Tryd.prog 7 3 3 := FieldAt.of (i := 3) Tryd.underlying7 rfl ty6 (by decide)
instance fo7_3 : FieldOf Tryd.prog 7 3 3 false 1 := FieldOf.of (i := 3) Tryd.underlying7 rfl ty6
instance bt7 : BuildT Tryd.prog 7 [(0, 1), (1, 1), (2, 1), (3, 1)] [Value.int IntKind.i64 0, Value.int IntKind.i64 0, Value.bool false, Value.int IntKind.u8 0] := BuildT.of Tryd.underlying7 Tryd.zeroValue7 (fun w => by kernel_rfl) (by decide)
instance fa8_0 : FieldAt Tryd.prog 8 0 0 := FieldAt.of (i := 0) Tryd.underlying8 rfl ty2 (by decide)
instance fo8_0 : FieldOf Tryd.prog 8 0 0 false 1 := FieldOf.of (i := 0) Tryd.underlying8 rfl ty2
instance fa8_1 : FieldAt Tryd.prog 8 1 1 := FieldAt.of (i := 1) Tryd.underlying8 rfl ty3 (by decide)
instance fo8_1 : FieldOf Tryd.prog 8 1 1 false 1 := FieldOf.of (i := 1) Tryd.underlying8 rfl ty3
instance fa8_2 : FieldAt Tryd.prog 8 2 2 := FieldAt.of (i := 2) Tryd.underlying8 rfl ty4 (by decide)
instance fo8_2 : FieldOf Tryd.prog 8 2 2 false 1 := FieldOf.of (i := 2) Tryd.underlying8 rfl ty4
instance fa8_3 : FieldAt Tryd.prog 8 3 3 := FieldAt.of (i := 3) Tryd.underlying8 rfl ty6 (by decide)
instance fo8_3 : FieldOf Tryd.prog 8 3 3 false 1 := FieldOf.of (i := 3) Tryd.underlying8 rfl ty6
instance bt8 : BuildT Tryd.prog 8 [(0, 1), (1, 1), (2, 1), (3, 1)] [Value.int IntKind.i64 0, Value.int IntKind.i64 0, Value.bool false, Value.int IntKind.u8 0] := BuildT.of Tryd.underlying8 Tryd.zeroValue8 (fun w => by kernel_rfl) (by decide)
instance fa13_0 : FieldAt Tryd.prog 13 0 0 := FieldAt.of (i := 0) Tryd.underlying13 rfl ty9 (by decide)
instance fo13_0 : FieldOf Tryd.prog 13 0 0 false 1 := FieldOf.of (i := 0) Tryd.underlying13 rfl ty9
instance fa13_1 : FieldAt Tryd.prog 13 1 1 := FieldAt.of (i := 1) Tryd.underlying13 rfl ty12 (by decide)
instance fo13_1 : FieldOf Tryd.prog 13 1 1 false 1 := FieldOf.of (i := 1) Tryd.underlying13 rfl ty12
instance bt13 : BuildT Tryd.prog 13 [(0, 1), (1, 1)] [Value.string { data := #[] }, Value.int IntKind.u64 0] := BuildT.of Tryd.underlying13 Tryd.zeroValue13 (fun w => by kernel_rfl) (by decide)
instance fa14_0 : FieldAt Tryd.prog 14 0 0 := FieldAt.of (i := 0) Tryd.underlying14 rfl ty9 (by decide)
instance fo14_0 : FieldOf Tryd.prog 14 0 0 false 1 := FieldOf.of (i := 0) Tryd.underlying14 rfl ty9
instance fa14_1 : FieldAt Tryd.prog 14 1 1 := FieldAt.of (i := 1) Tryd.underlying14 rfl ty12 (by decide)
instance fo14_1 : FieldOf Tryd.prog 14 1 1 false 1 := FieldOf.of (i := 1) Tryd.underlying14 rfl ty12
instance bt14 : BuildT Tryd.prog 14 [(0, 1), (1, 1)] [Value.string { data := #[] }, Value.int IntKind.u64 0] := BuildT.of Tryd.underlying14 Tryd.zeroValue14 (fun w => by kernel_rfl) (by decide)
instance fa18_0 : FieldAt Tryd.prog 18 0 0 := FieldAt.of (i := 0) Tryd.underlying18 rfl ty17 (by decide)
instance fo18_0 : FieldOf Tryd.prog 18 0 0 false 1 := FieldOf.of (i := 0) Tryd.underlying18 rfl ty17
instance bt18 : BuildT Tryd.prog 18 [(0, 1)] [Value.pointer none] := BuildT.of Tryd.underlying18 Tryd.zeroValue18 (fun w => by kernel_rfl) (by decide)
instance fa19_0 : FieldAt Tryd.prog 19 0 0 := FieldAt.of (i := 0) Tryd.underlying19 rfl ty17 (by decide)
instance fo19_0 : FieldOf Tryd.prog 19 0 0 false 1 := FieldOf.of (i := 0) Tryd.underlying19 rfl ty17
instance bt19 : BuildT Tryd.prog 19 [(0, 1)] [Value.pointer none] := BuildT.of Tryd.underlying19 Tryd.zeroValue19 (fun w => by kernel_rfl) (by decide)
instance fa32_0 : FieldAt Tryd.prog 32 0 0 := FieldAt.of (i := 0) Tryd.underlying32 rfl ty3 (by decide)
instance fo32_0 : FieldOf Tryd.prog 32 0 0 false 1 := FieldOf.of (i := 0) Tryd.underlying32 rfl ty3
instance fa32_1 : FieldAt Tryd.prog 32 1 1 := FieldAt.of (i := 1) Tryd.underlying32 rfl ty3 (by decide)
instance fo32_1 : FieldOf Tryd.prog 32 1 1 false 1 := FieldOf.of (i := 1) Tryd.underlying32 rfl ty3
instance fa32_2 : FieldAt Tryd.prog 32 2 2 := FieldAt.of (i := 2) Tryd.underlying32 rfl ty3 (by decide)
instance fo32_2 : FieldOf Tryd.prog 32 2 2 false 1 := FieldOf.of (i := 2) Tryd.underlying32 rfl ty3
instance fa32_3 : FieldAt Tryd.prog 32 3 3 := FieldAt.of (i := 3) Tryd.underlying32 rfl ty9 (by decide)
instance fo32_3 : FieldOf Tryd.prog 32 3 3 false 1 := FieldOf.of (i := 3) Tryd.underlying32 rfl ty9
instance bt32 : BuildT Tryd.prog 32 [(0, 1), (1, 1), (2, 1), (3, 1)] [Value.int IntKind.i64 0, Value.int IntKind.i64 0, Value.int IntKind.i64 0, Value.string { data := #[] }] := BuildT.of Tryd.underlying32 Tryd.zeroValue32 (fun w => by kernel_rfl) (by decide)
instance fa33_0 : FieldAt Tryd.prog 33 0 0 := FieldAt.of (i := 0) Tryd.underlying33 rfl ty3 (by decide)
instance fo33_0 : FieldOf Tryd.prog 33 0 0 false 1 := FieldOf.of (i := 0) Tryd.underlying33 rfl ty3
instance fa33_1 : FieldAt Tryd.prog 33 1 1 := FieldAt.of (i := 1) Tryd.underlying33 rfl ty3 (by decide)
instance fo33_1 : FieldOf Tryd.prog 33 1 1 false 1 := FieldOf.of (i := 1) Tryd.underlying33 rfl ty3
instance fa33_2 : FieldAt Tryd.prog 33 2 2 := FieldAt.of (i := 2) Tryd.underlying33 rfl ty3 (by decide)
instance fo33_2 : FieldOf Tryd.prog 33 2 2 false 1 := FieldOf.of (i := 2) Tryd.underlying33 rfl ty3
instance fa33_3 : FieldAt Tryd.prog 33 3 3 := FieldAt.of (i := 3) Tryd.underlying33 rfl ty9 (by decide)
instance fo33_3 : FieldOf Tryd.prog 33 3 3 false 1 := FieldOf.of (i := 3) Tryd.underlying33 rfl ty9
instance bt33 : BuildT Tryd.prog 33 [(0, 1), (1, 1), (2, 1), (3, 1)] [Value.int IntKind.i64 0, Value.int IntKind.i64 0, Value.int IntKind.i64 0, Value.string { data := #[] }] := BuildT.of Tryd.underlying33 Tryd.zeroValue33 (fun w => by kernel_rfl) (by decide)
instance fa59_0 : FieldAt Tryd.prog 59 0 0 := FieldAt.of (i := 0) Tryd.underlying59 rfl ty9 (by decide)
instance fo59_0 : FieldOf Tryd.prog 59 0 0 false 1 := FieldOf.of (i := 0) Tryd.underlying59 rfl ty9
instance fa59_1 : FieldAt Tryd.prog 59 1 1 := FieldAt.of (i := 1) Tryd.underlying59 rfl ty3 (by decide)
instance fo59_1 : FieldOf Tryd.prog 59 1 1 false 1 := FieldOf.of (i := 1) Tryd.underlying59 rfl ty3
instance fa59_2 : FieldAt Tryd.prog 59 2 2 := FieldAt.of (i := 2) Tryd.underlying59 rfl ty56 (by decide)
instance fo59_2 : FieldOf Tryd.prog 59 2 2 true 256 := FieldOf.of (i := 2) Tryd.underlying59 rfl ty56
instance fa59_3 : FieldAt Tryd.prog 59 3 258 := FieldAt.of (i := 3) Tryd.underlying59 rfl ty51 (by decide)
instance fo59_3 : FieldOf Tryd.prog 59 3 258 false 1 := FieldOf.of (i := 3) Tryd.underlying59 rfl ty51
instance fa60_0 : FieldAt Tryd.prog 60 0 0 := FieldAt.of (i := 0) Tryd.underlying60 rfl ty9 (by decide)
instance fo60_0 : FieldOf Tryd.prog 60 0 0 false 1 := FieldOf.of (i := 0) Tryd.underlying60 rfl ty9
instance fa60_1 : FieldAt Tryd.prog 60 1 1 := FieldAt.of (i := 1) Tryd.underlying60 rfl ty3 (by decide)
instance fo60_1 : FieldOf Tryd.prog 60 1 1 false 1 := FieldOf.of (i := 1) Tryd.underlying60 rfl ty3
instance fa60_2 : FieldAt Tryd.prog 60 2 2 := FieldAt.of (i := 2) Tryd.underlying60 rfl ty56 (by decide)
instance fo60_2 : FieldOf Tryd.prog 60 2 2 true 256 := FieldOf.of (i := 2) Tryd.underlying60 rfl ty56
instance fa60_3 : FieldAt Tryd.prog 60 3 258 := FieldAt.of (i := 3) Tryd.underlying60 rfl ty51 (by decide)
instance fo60_3 : FieldOf Tryd.prog 60 3 258 false 1 := FieldOf.of (i := 3) Tryd.underlying60 rfl ty51
instance fa69_0 : FieldAt Tryd.prog 69 0 0 := FieldAt.of (i := 0) Tryd.underlying69 rfl ty67 (by decide)
instance fo69_0 : FieldOf Tryd.prog 69 0 0 false 1 := FieldOf.of (i := 0) Tryd.underlying69 rfl ty67
instance fa69_1 : FieldAt Tryd.prog 69 1 1 := FieldAt.of (i := 1) Tryd.underlying69 rfl ty68 (by decide)
instance fo69_1 : FieldOf Tryd.prog 69 1 1 false 1 := FieldOf.of (i := 1) Tryd.underlying69 rfl ty68
instance bt69 : BuildT Tryd.prog 69 [(0, 1), (1, 1)] [Value.pointer none, Value.slice none 0 0] := BuildT.of Tryd.underlying69 Tryd.zeroValue69 (fun w => by kernel_rfl) (by decide)
instance fa70_0 : FieldAt Tryd.prog 70 0 0 := FieldAt.of (i := 0) Tryd.underlying70 rfl ty67 (by decide)
instance fo70_0 : FieldOf Tryd.prog 70 0 0 false 1 := FieldOf.of (i := 0) Tryd.underlying70 rfl ty67
instance fa70_1 : FieldAt Tryd.prog 70 1 1 := FieldAt.of (i := 1) Tryd.underlying70 rfl ty68 (by decide)
instance fo70_1 : FieldOf Tryd.prog 70 1 1 false 1 := FieldOf.of (i := 1) Tryd.underlying70 rfl ty68
instance bt70 : BuildT Tryd.prog 70 [(0, 1), (1, 1)] [Value.pointer none, Value.slice none 0 0] := BuildT.of Tryd.underlying70 Tryd.zeroValue70 (fun w => by kernel_rfl) (by decide)
instance fa115_0 : FieldAt Tryd.prog 115 0 0 := FieldAt.of (i := 0) Tryd.underlying115 rfl ty3 (by decide)
instance fo115_0 : FieldOf Tryd.prog 115 0 0 false 1 := FieldOf.of (i := 0) Tryd.underlying115 rfl ty3
instance fa115_1 : FieldAt Tryd.prog 115 1 1 := FieldAt.of (i := 1) Tryd.underlying115 rfl ty3 (by decide)
instance fo115_1 : FieldOf Tryd.prog 115 1 1 false 1 := FieldOf.of (i := 1) Tryd.underlying115 rfl ty3
instance bt115 : BuildT Tryd.prog 115 [(0, 1), (1, 1)] [Value.int IntKind.i64 0, Value.int IntKind.i64 0] := BuildT.of Tryd.underlying115 Tryd.zeroValue115 (fun w => by kernel_rfl) (by decide)
instance fa116_0 : FieldAt Tryd.prog 116 0 0 := FieldAt.of (i := 0) Tryd.underlying116 rfl ty3 (by decide)
instance fo116_0 : FieldOf Tryd.prog 116 0 0 false 1 := FieldOf.of (i := 0) Tryd.underlying116 rfl ty3
instance fa116_1 : FieldAt Tryd.prog 116 1 1 := FieldAt.of (i := 1) Tryd.underlying116 rfl ty3 (by decide)
instance fo116_1 : FieldOf Tryd.prog 116 1 1 false 1 := FieldOf.of (i := 1) Tryd.underlying116 rfl ty3
instance bt116 : BuildT Tryd.prog 116 [(0, 1), (1, 1)] [Value.int IntKind.i64 0, Value.int IntKind.i64 0] := BuildT.of Tryd.underlying116 Tryd.zeroValue116 (fun w => by kernel_rfl) (by decide)
instance fa127_0 : FieldAt Tryd.prog 127 0 0 := FieldAt.of (i := 0) Tryd.underlying127 rfl ty125 (by decide)
instance fo127_0 : FieldOf Tryd.prog 127 0 0 false 1 := FieldOf.of (i := 0) Tryd.underlying127 rfl ty125
instance fa127_1 : FieldAt Tryd.prog 127 1 1 := FieldAt.of (i := 1) Tryd.underlying127 rfl ty126 (by decide)
instance fo127_1 : FieldOf Tryd.prog 127 1 1 false 1 := FieldOf.of (i := 1) Tryd.underlying127 rfl ty126
instance fa127_2 : FieldAt Tryd.prog 127 2 2 := FieldAt.of (i := 2) Tryd.underlying127 rfl ty3 (by decide)
instance fo127_2 : FieldOf Tryd.prog 127 2 2 false 1 := FieldOf.of (i := 2) Tryd.underlying127 rfl ty3
instance bt127 : BuildT Tryd.prog 127 [(0, 1), (1, 1), (2, 1)] [Value.slice none 0 0, Value.slice none 0 0, Value.int IntKind.i64 0] := BuildT.of Tryd.underlying127 Tryd.zeroValue127 (fun w => by kernel_rfl) (by decide)
instance fa128_0 : FieldAt Tryd.prog 128 0 0 := FieldAt.of (i := 0) Tryd.underlying128 rfl ty125 (by decide)
instance fo128_0 : FieldOf Tryd.prog 128 0 0 false 1 := FieldOf.of (i := 0) Tryd.underlying128 rfl ty125
instance fa128_1 : FieldAt Tryd.prog 128 1 1 := FieldAt.of (i := 1) Tryd.underlying128 rfl ty126 (by decide)
instance fo128_1 : FieldOf Tryd.prog 128 1 1 false 1 := FieldOf.of (i := 1) Tryd.underlying128 rfl ty126
instance fa128_2 : FieldAt Tryd.prog 128 2 2 := FieldAt.of (i := 2) Tryd.underlying128 rfl ty3 (by decide)
instance fo128_2 : FieldOf Tryd.prog 128 2 2 false 1 := FieldOf.of (i := 2) Tryd.underlying128 rfl ty3
instance bt128 : BuildT Tryd.prog 128 [(0, 1), (1, 1), (2, 1)] [Value.slice none 0 0, Value.slice none 0 0, Value.int IntKind.i64 0] := BuildT.of Tryd.underlying128 Tryd.zeroValue128 (fun w => by kernel_rfl) (by decide)
instance fa130_0 : FieldAt Tryd.prog 130 0 0 := FieldAt.of (i := 0) Tryd.underlying130 rfl ty129 (by decide)
instance fo130_0 : FieldOf Tryd.prog 130 0 0 false 1 := FieldOf.of (i := 0) Tryd.underlying130 rfl ty129
instance fa130_1 : FieldAt Tryd.prog 130 1 1 := FieldAt.of (i := 1) Tryd.underlying130 rfl ty129 (by decide)
instance fo130_1 : FieldOf Tryd.prog 130 1 1 false 1 := FieldOf.of (i := 1) Tryd.underlying130 rfl ty129
instance fa130_2 : FieldAt Tryd.prog 130 2 2 := FieldAt.of (i := 2) Tryd.underlying130 rfl ty129 (by decide)
instance fo130_2 : FieldOf Tryd.prog 130 2 2 false 1 := FieldOf.of (i := 2) Tryd.underlying130 rfl ty129
instance bt130 : BuildT Tryd.prog 130 [(0, 1), (1, 1), (2, 1)] [Value.int IntKind.u16 0, Value.int IntKind.u16 0, Value.int IntKind.u16 0] := BuildT.of Tryd.underlying130 Tryd.zeroValue130 (fun w => by kernel_rfl) (by decide)
instance fa131_0 : FieldAt Tryd.prog 131 0 0 := FieldAt.of (i := 0) Tryd.underlying131 rfl ty129 (by decide)
instance fo131_0 : FieldOf Tryd.prog 131 0 0 false 1 := FieldOf.of (i := 0) Tryd.underlying131 rfl ty129
instance fa131_1 : FieldAt Tryd.prog 131 1 1 := FieldAt.of (i := 1) Tryd.underlying131 rfl ty129 (by decide)
instance fo131_1 : FieldOf Tryd.prog 131 1 1 false 1 := FieldOf.of (i := 1) Tryd.underlying131 rfl ty129
instance fa131_2 : FieldAt Tryd.prog 131 2 2 := FieldAt.of (i := 2) Tryd.underlying131 rfl ty129 (by decide)
instance fo131_2 : FieldOf Tryd.prog 131 2 2 false 1 := FieldOf.of (i := 2) Tryd.underlying131 rfl ty129
instance bt131 : BuildT Tryd.prog 131 [(0, 1), (1, 1), (2, 1)] [Value.int IntKind.u16 0, Value.int IntKind.u16 0, Value.int IntKind.u16 0] := BuildT.of Tryd.underlying131 Tryd.zeroValue131 (fun w => by kernel_rfl) (by decide)
instance fa133_0 : FieldAt Tryd.prog 133 0 0 := FieldAt.of (i := 0) Tryd.underlying133 rfl ty90 (by decide)
instance fo133_0 : FieldOf Tryd.prog 133 0 0 false 1 := FieldOf.of (i := 0) Tryd.underlying133 rfl ty90
instance fa133_1 : FieldAt Tryd.prog 133 1 1 := FieldAt.of (i := 1) Tryd.underlying133 rfl ty90 (by decide)
instance fo133_1 : FieldOf Tryd.prog 133 1 1 false 1 := FieldOf.of (i := 1) Tryd.underlying133 rfl ty90
instance fa133_2 : FieldAt Tryd.prog 133 2 2 := FieldAt.of (i := 2) Tryd.underlying133 rfl ty90 (by decide)
instance fo133_2 : FieldOf Tryd.prog 133 2 2 false 1 := FieldOf.of (i := 2) Tryd.underlying133 rfl ty90
instance bt133 : BuildT Tryd.prog 133 [(0, 1), (1, 1), (2, 1)] [Value.int IntKind.u32 0, Value.int IntKind.u32 0, Value.int IntKind.u32 0] := BuildT.of Tryd.underlying133 Tryd.zeroValue133 (fun w => by kernel_rfl) (by decide)
instance fa134_0 : FieldAt Tryd.prog 134 0 0 := FieldAt.of (i := 0) Tryd.underlying134 rfl ty90 (by decide)
instance fo134_0 : FieldOf Tryd.prog 134 0 0 false 1 := FieldOf.of (i := 0) Tryd.underlying134 rfl ty90
instance fa134_1 : FieldAt Tryd.prog 134 1 1 := FieldAt.of (i := 1) Tryd.underlying134 rfl ty90 (by decide)
instance fo134_1 : FieldOf Tryd.prog 134 1 1 false 1 := FieldOf.of (i := 1) Tryd.underlying134 rfl ty90
instance fa134_2 : FieldAt Tryd.prog 134 2 2 := FieldAt.of (i := 2) Tryd.underlying134 rfl ty90 (by decide)
instance fo134_2 : FieldOf Tryd.prog 134 2 2 false 1 := FieldOf.of (i := 2) Tryd.underlying134 rfl ty90
instance bt134 : BuildT Tryd.prog 134 [(0, 1), (1, 1), (2, 1)] [Value.int IntKind.u32 0, Value.int IntKind.u32 0, Value.int IntKind.u32 0] := BuildT.of Tryd.underlying134 Tryd.zeroValue134 (fun w => by kernel_rfl) (by decide)
instance fa141_0 : FieldAt Tryd.prog 141 0 0 := FieldAt.of (i := 0) Tryd.underlying141 rfl ty17 (by decide)
instance fo141_0 : FieldOf Tryd.prog 141 0 0 false 1 := FieldOf.of (i := 0) Tryd.underlying141 rfl ty17
instance fa141_1 : FieldAt Tryd.prog 141 1 1 := FieldAt.of (i := 1) Tryd.underlying141 rfl ty17 (by decide)
instance fo141_1 : FieldOf Tryd.prog 141 1 1 false 1 := FieldOf.of (i := 1) Tryd.underlying141 rfl ty17
instance fa141_2 : FieldAt Tryd.prog 141 2 2 := FieldAt.of (i := 2) Tryd.underlying141 rfl ty17 (by decide)
instance fo141_2 : FieldOf Tryd.prog 141 2 2 false 1 := FieldOf.of (i := 2) Tryd.underlying141 rfl ty17
instance fa141_3 : FieldAt Tryd.prog 141 3 3 := FieldAt.of (i := 3) Tryd.underlying141 rfl ty9 (by decide)
instance fo141_3 : FieldOf Tryd.prog 141 3 3 false 1 := FieldOf.of (i := 3) Tryd.underlying141 rfl ty9
instance bt141 : BuildT Tryd.prog 141 [(0, 1), (1, 1), (2, 1), (3, 1)] [Value.pointer none, Value.pointer none, Value.pointer none, Value.string { data := #[] }] := BuildT.of Tryd.underlying141 Tryd.zeroValue141 (fun w => by kernel_rfl) (by decide)
instance fa142_0 : FieldAt Tryd.prog 142 0 0 := FieldAt.of (i := 0) Tryd.underlying142 rfl ty17 (by decide)
instance fo142_0 : FieldOf Tryd.prog 142 0 0 false 1 := FieldOf.of (i := 0) Tryd.underlying142 rfl ty17
instance fa142_1 : FieldAt Tryd.prog 142 1 1 := FieldAt.of (i := 1) Tryd.underlying142 rfl ty17 (by decide)
instance fo142_1 : FieldOf Tryd.prog 142 1 1 false 1 := FieldOf.of (i := 1) Tryd.underlying142 rfl ty17
instance fa142_2 : FieldAt Tryd.prog 142 2 2 := FieldAt.of (i := 2) Tryd.underlying142 rfl ty17 (by decide)
instance fo142_2 : FieldOf Tryd.prog 142 2 2 false 1 := FieldOf.of (i := 2) Tryd.underlying142 rfl ty17
instance fa142_3 : FieldAt Tryd.prog 142 3 3 := FieldAt.of (i := 3) Tryd.underlying142 rfl ty9 (by decide)
instance fo142_3 : FieldOf Tryd.prog 142 3 3 false 1 := FieldOf.of (i := 3) Tryd.underlying142 rfl ty9
instance bt142 : BuildT Tryd.prog 142 [(0, 1), (1, 1), (2, 1), (3, 1)] [Value.pointer none, Value.pointer none, Value.pointer none, Value.string { data := #[] }] := BuildT.of Tryd.underlying142 Tryd.zeroValue142 (fun w => by kernel_rfl) (by decide)
instance fo144_0 : FieldOf Tryd.prog 144 0 0 true 0 := FieldOf.of (i := 0) Tryd.underlying144 rfl ty143
instance bt144 : BuildT Tryd.prog 144 [(0, 0)] [] := BuildT.of Tryd.underlying144 Tryd.zeroValue144 (fun w => by kernel_rfl) (by decide)
instance fo145_0 : FieldOf Tryd.prog 145 0 0 true 0 := FieldOf.of (i := 0) Tryd.underlying145 rfl ty143
instance bt145 : BuildT Tryd.prog 145 [(0, 0)] [] := BuildT.of Tryd.underlying145 Tryd.zeroValue145 (fun w => by kernel_rfl) (by decide)
instance fa152_0 : FieldAt Tryd.prog 152 0 0 := FieldAt.of (i := 0) Tryd.underlying152 rfl ty12 (by decide)
instance fo152_0 : FieldOf Tryd.prog 152 0 0 false 1 := FieldOf.of (i := 0) Tryd.underlying152 rfl ty12
instance fa152_1 : FieldAt Tryd.prog 152 1 1 := FieldAt.of (i := 1) Tryd.underlying152 rfl ty12 (by decide)
instance fo152_1 : FieldOf Tryd.prog 152 1 1 false 1 := FieldOf.of (i := 1) Tryd.underlying152 rfl ty12
instance fa152_2 : FieldAt Tryd.prog 152 2 2 := FieldAt.of (i := 2) Tryd.underlying152 rfl ty90 (by decide)
instance fo152_2 : FieldOf Tryd.prog 152 2 2 false 1 := FieldOf.of (i := 2) Tryd.underlying152 rfl ty90
instance fa152_3 : FieldAt Tryd.prog 152 3 3 := FieldAt.of (i := 3) Tryd.underlying152 rfl ty147 (by decide)
instance fo152_3 : FieldOf Tryd.prog 152 3 3 false 1 := FieldOf.of (i := 3) Tryd.underlying152 rfl ty147
instance fa152_4 : FieldAt Tryd.prog 152 4 4 := FieldAt.of (i := 4) Tryd.underlying152 rfl ty5 (by decide)
instance fo152_4 : FieldOf Tryd.prog 152 4 4 false 1 := FieldOf.of (i := 4) Tryd.underlying152 rfl ty5
instance fa152_5 : FieldAt Tryd.prog 152 5 5 := FieldAt.of (i := 5) Tryd.underlying152 rfl ty5 (by decide)
instance fo152_5 : FieldOf Tryd.prog 152 5 5 false 1 := FieldOf.of (i := 5) Tryd.underlying152 rfl ty5
instance fa152_6 : FieldAt Tryd.prog 152 6 6 := FieldAt.of (i := 6) Tryd.underlying152 rfl ty148 (by decide)
instance fo152_6 : FieldOf Tryd.prog 152 6 6 false 1 := FieldOf.of (i := 6) Tryd.underlying152 rfl ty148
instance fa152_7 : FieldAt Tryd.prog 152 7 7 := FieldAt.of (i := 7) Tryd.underlying152 rfl ty149 (by decide)
instance fo152_7 : FieldOf Tryd.prog 152 7 7 false 1 := FieldOf.of (i := 7) Tryd.underlying152 rfl ty149
instance fa152_8 : FieldAt Tryd.prog 152 8 8 := FieldAt.of (i := 8) Tryd.underlying152 rfl ty89 (by decide)
instance fo152_8 : FieldOf Tryd.prog 152 8 8 false 1 := FieldOf.of (i := 8) Tryd.underlying152 rfl ty89
instance fa152_9 : FieldAt Tryd.prog 152 9 9 := FieldAt.of (i := 9) Tryd.underlying152 rfl ty150 (by decide)
instance fo152_9 : FieldOf Tryd.prog 152 9 9 false 1 := FieldOf.of (i := 9) Tryd.underlying152 rfl ty150
instance fa152_10 : FieldAt Tryd.prog 152 10 10 := FieldAt.of (i := 10) Tryd.underlying152 rfl ty151 (by decide)
instance fo152_10 : FieldOf Tryd.prog 152 10 10 false 1 := FieldOf.of (i := 10) Tryd.underlying152 rfl ty151
instance bt152 : BuildT Tryd.prog 152 [(0, 1), (1, 1), (2, 1), (3, 1), (4, 1), (5, 1), (6, 1), (7, 1), (8, 1), (9, 1), (10, 1)] [Value.int IntKind.u64 0, Value.int IntKind.u64 0, Value.int IntKind.u32 0, Value.int IntKind.u8 0,
          Value.int IntKind.u8 0, Value.int IntKind.u8 0, Value.int IntKind.u8 0, Value.nilFunc, Value.pointer none,
          Value.int IntKind.i32 0, Value.int IntKind.i32 0] := BuildT.of Tryd.underlying152 Tryd.zeroValue152 (fun w => by kernel_rfl) (by decide)
instance fa153_0 : FieldAt Tryd.prog 153 0 0 := FieldAt.of (i := 0) Tryd.underlying153 rfl ty12 (by decide)
instance fo153_0 : FieldOf Tryd.prog 153 0 0 false 1 := FieldOf.of (i := 0) Tryd.underlying153 rfl ty12
instance fa153_1 : FieldAt Tryd.prog 153 1 1 := FieldAt.of (i := 1) Tryd.underlying153 rfl ty12 (by decide)
instance fo153_1 : FieldOf Tryd.prog 153 1 1 false 1 := FieldOf.of (i := 1) Tryd.underlying153 rfl ty12
instance fa153_2 : FieldAt Tryd.prog 153 2 2 := FieldAt.of (i := 2) Tryd.underlying153 rfl ty90 (by decide)
instance fo153_2 : FieldOf Tryd.prog 153 2 2 false 1 := FieldOf.of (i := 2) Tryd.underlying153 rfl ty90
instance fa153_3 : FieldAt Tryd.prog 153 3 3 := FieldAt.of (i := 3) Tryd.underlying153 rfl ty147 (by decide)
instance fo153_3 : FieldOf Tryd.prog 153 3 3 false 1 := FieldOf.of (i := 3) Tryd.underlying153 rfl ty147
instance fa153_4 : FieldAt Tryd.prog 153 4 4 := FieldAt.of (i := 4) Tryd.underlying153 rfl ty5 (by decide)
instance fo153_4 : FieldOf Tryd.prog 153 4 4 false 1 := FieldOf.of (i := 4) Tryd.underlying153 rfl ty5
instance fa153_5 : FieldAt Tryd.prog 153 5 5 := FieldAt.of (i := 5) Tryd.underlying153 rfl ty5 (by decide)
instance fo153_5 : FieldOf Tryd.prog 153 5 5 false 1 := FieldOf.of (i := 5) Tryd.underlying153 rfl ty5
instance fa153_6 : FieldAt Tryd.prog 153 6 6 := FieldAt.of (i := 6) Tryd.underlying153 rfl ty148 (by decide)
instance fo153_6 : FieldOf Tryd.prog 153 6 6 false 1 := FieldOf.of (i := 6) Tryd.underlying153 rfl ty148
instance fa153_7 : FieldAt Tryd.prog 153 7 7 := FieldAt.of (i := 7) Tryd.underlying153 rfl ty149 (by decide)
instance fo153_7 : FieldOf Tryd.prog 153 7 7 false 1 := FieldOf.of (i := 7) Tryd.underlying153 rfl ty149
instance fa153_8 : FieldAt Tryd.prog 153 8 8 := FieldAt.of (i := 8) Tryd.underlying153 rfl ty89 (by decide)
instance fo153_8 : FieldOf Tryd.prog 153 8 8 false 1 := FieldOf.of (i := 8) Tryd.underlying153 rfl ty89
instance fa153_9 : FieldAt Tryd.prog 153 9 9 := FieldAt.of (i := 9) Tryd.underlying153 rfl ty150 (by decide)
instance fo153_9 : FieldOf Tryd.prog 153 9 9 false 1 := FieldOf.of (i := 9) Tryd.underlying153 rfl ty150
instance fa153_10 : FieldAt Tryd.prog 153 10 10 := FieldAt.of (i := 10) Tryd.underlying153 rfl ty151 (by decide)
instance fo153_10 : FieldOf Tryd.prog 153 10 10 false 1 := FieldOf.of (i := 10) Tryd.underlying153 rfl ty151
instance bt153 : BuildT Tryd.prog 153 [(0, 1), (1, 1), (2, 1), (3, 1), (4, 1), (5, 1), (6, 1), (7, 1), (8, 1), (9, 1), (10, 1)] [Value.int IntKind.u64 0, Value.int IntKind.u64 0, Value.int IntKind.u32 0, Value.int IntKind.u8 0,
          Value.int IntKind.u8 0, Value.int IntKind.u8 0, Value.int IntKind.u8 0, Value.nilFunc, Value.pointer none,
          Value.int IntKind.i32 0, Value.int IntKind.i32 0] := BuildT.of Tryd.underlying153 Tryd.zeroValue153 (fun w => by kernel_rfl) (by decide)
instance kk2 : KeyT Tryd.prog 2 (.int .i64) := ⟨Tryd.underlying2⟩
instance kk3 : KeyT Tryd.prog 3 (.int .i64) := ⟨Tryd.underlying3⟩
instance kk4 : KeyT Tryd.prog 4 (.bool) := ⟨Tryd.underlying4⟩
instance kk5 : KeyT Tryd.prog 5 (.int .u8) := ⟨Tryd.underlying5⟩
instance kk6 : KeyT Tryd.prog 6 (.int .u8) := ⟨Tryd.underlying6⟩
instance kk9 : KeyT Tryd.prog 9 (.str) := ⟨Tryd.underlying9⟩
instance kk10 : KeyT Tryd.prog 10 (.str) := ⟨Tryd.underlying10⟩
instance kk11 : KeyT Tryd.prog 11 (.str) := ⟨Tryd.underlying11⟩
instance kk12 : KeyT Tryd.prog 12 (.int .u64) := ⟨Tryd.underlying12⟩
instance kk21 : KeyT Tryd.prog 21 (.int .i32) := ⟨Tryd.underlying21⟩
instance kk24 : KeyT Tryd.prog 24 (.int .i64) := ⟨Tryd.underlying24⟩
instance kk55 : KeyT Tryd.prog 55 (.int .u64) := ⟨Tryd.underlying55⟩
instance kk90 : KeyT Tryd.prog 90 (.int .u32) := ⟨Tryd.underlying90⟩
instance kk109 : KeyT Tryd.prog 109 (.int .u64) := ⟨Tryd.underlying109⟩
instance kk129 : KeyT Tryd.prog 129 (.int .u16) := ⟨Tryd.underlying129⟩
instance kk147 : KeyT Tryd.prog 147 (.int .u8) := ⟨Tryd.underlying147⟩
instance kk148 : KeyT Tryd.prog 148 (.int .u8) := ⟨Tryd.underlying148⟩
instance kk150 : KeyT Tryd.prog 150 (.int .i32) := ⟨Tryd.underlying150⟩
instance kk151 : KeyT Tryd.prog 151 (.int .i32) := ⟨Tryd.underlying151⟩
instance fe33 : FlatEq Tryd.prog 33 [(0, .int .i64), (1, .int .i64), (2, .int .i64), (3, .str)] := ⟨by kernel_rfl, by kernel_rfl, _, Tryd.underlying33, flat_cons (by decide) rfl Tryd.underlying3 (flat_cons (by decide) rfl Tryd.underlying3 (flat_cons (by decide) rfl Tryd.underlying3 (flat_cons (by decide) rfl Tryd.underlying9 (flat_nil))))⟩
instance ae56 : ArrEq Tryd.prog 56 256 (.int .i64) := ⟨by kernel_rfl, _, _, Tryd.underlying56, rfl, rfl, Tryd.underlying3⟩
instance ae94 : ArrEq Tryd.prog 94 256 (.int .u8) := ⟨by kernel_rfl, _, _, Tryd.underlying94, rfl, rfl, Tryd.underlying5⟩
instance ae108 : ArrEq Tryd.prog 108 24 (.int .u8) := ⟨by kernel_rfl, _, _, Tryd.underlying108, rfl, rfl, Tryd.underlying5⟩
instance ae121 : ArrEq Tryd.prog 121 20 (.int .u64) := ⟨by kernel_rfl, _, _, Tryd.underlying121, rfl, rfl, Tryd.underlying109⟩
instance ae122 : ArrEq Tryd.prog 122 65 (.int .u8) := ⟨by kernel_rfl, _, _, Tryd.underlying122, rfl, rfl, Tryd.underlying5⟩
instance ae139 : ArrEq Tryd.prog 139 32 (.int .u8) := ⟨by kernel_rfl, _, _, Tryd.underlying139, rfl, rfl, Tryd.underlying5⟩
instance ae140 : ArrEq Tryd.prog 140 64 (.int .u8) := ⟨by kernel_rfl, _, _, Tryd.underlying140, rfl, rfl, Tryd.underlying5⟩
instance en2 : Ent Tryd.prog 2 := ⟨Tryd.call2⟩
instance en3 : Ent Tryd.prog 3 := ⟨Tryd.call3⟩
instance en4 : Ent Tryd.prog 4 := ⟨Tryd.call4⟩
instance en5 : Ent Tryd.prog 5 := ⟨Tryd.call5⟩
instance en6 : Ent Tryd.prog 6 := ⟨Tryd.call6⟩
instance en7 : Ent Tryd.prog 7 := ⟨Tryd.call7⟩
instance en8 : Ent Tryd.prog 8 := ⟨Tryd.call8⟩
instance en9 : Ent Tryd.prog 9 := ⟨Tryd.call9⟩
instance en10 : Ent Tryd.prog 10 := ⟨Tryd.call10⟩
instance en11 : Ent Tryd.prog 11 := ⟨Tryd.call11⟩
instance en12 : Ent Tryd.prog 12 := ⟨Tryd.call12⟩
instance en13 : Ent Tryd.prog 13 := ⟨Tryd.call13⟩
instance en14 : Ent Tryd.prog 14 := ⟨Tryd.call14⟩
instance en15 : Ent Tryd.prog 15 := ⟨Tryd.call15⟩
instance en16 : Ent Tryd.prog 16 := ⟨Tryd.call16⟩
instance en17 : Ent Tryd.prog 17 := ⟨Tryd.call17⟩
instance en18 : Ent Tryd.prog 18 := ⟨Tryd.call18⟩
instance en19 : Ent Tryd.prog 19 := ⟨Tryd.call19⟩
instance en20 : Ent Tryd.prog 20 := ⟨Tryd.call20⟩
instance en21 : Ent Tryd.prog 21 := ⟨Tryd.call21⟩
instance en22 : Ent Tryd.prog 22 := ⟨Tryd.call22⟩
instance en23 : Ent Tryd.prog 23 := ⟨Tryd.call23⟩
instance en24 : Ent Tryd.prog 24 := ⟨Tryd.call24⟩
instance en25 : Ent Tryd.prog 25 := ⟨Tryd.call25⟩
instance en26 : Ent Tryd.prog 26 := ⟨Tryd.call26⟩
instance en27 : Ent Tryd.prog 27 := ⟨Tryd.call27⟩
instance en28 : Ent Tryd.prog 28 := ⟨Tryd.call28⟩
instance en29 : Ent Tryd.prog 29 := ⟨Tryd.call29⟩
instance en30 : Ent Tryd.prog 30 := ⟨Tryd.call30⟩
instance en31 : Ent Tryd.prog 31 := ⟨Tryd.call31⟩
instance en32 : Ent Tryd.prog 32 := ⟨Tryd.call32⟩
instance en33 : Ent Tryd.prog 33 := ⟨Tryd.call33⟩
instance en34 : Ent Tryd.prog 34 := ⟨Tryd.call34⟩
instance en35 : Ent Tryd.prog 35 := ⟨Tryd.call35⟩
instance en36 : Ent Tryd.prog 36 := ⟨Tryd.call36⟩
instance en37 : Ent Tryd.prog 37 := ⟨Tryd.call37⟩
instance en38 : Ent Tryd.prog 38 := ⟨Tryd.call38⟩
instance en39 : Ent Tryd.prog 39 := ⟨Tryd.call39⟩
instance en40 : Ent Tryd.prog 40 := ⟨Tryd.call40⟩
instance en41 : Ent Tryd.prog 41 := ⟨Tryd.call41⟩
instance en42 : Ent Tryd.prog 42 := ⟨Tryd.call42⟩
instance en43 : Ent Tryd.prog 43 := ⟨Tryd.call43⟩
instance en44 : Ent Tryd.prog 44 := ⟨Tryd.call44⟩
instance en45 : Ent Tryd.prog 45 := ⟨Tryd.call45⟩
instance en46 : Ent Tryd.prog 46 := ⟨Tryd.call46⟩
instance en47 : Ent Tryd.prog 47 := ⟨Tryd.call47⟩
instance en48 : Ent Tryd.prog 48 := ⟨Tryd.call48⟩
instance en49 : Ent Tryd.prog 49 := ⟨Tryd.call49⟩
instance en50 : Ent Tryd.prog 50 := ⟨Tryd.call50⟩
instance en51 : Ent Tryd.prog 51 := ⟨Tryd.call51⟩
instance en52 : Ent Tryd.prog 52 := ⟨Tryd.call52⟩
instance en53 : Ent Tryd.prog 53 := ⟨Tryd.call53⟩
instance en54 : Ent Tryd.prog 54 := ⟨Tryd.call54⟩
instance en55 : Ent Tryd.prog 55 := ⟨Tryd.call55⟩
instance en57 : Ent Tryd.prog 57 := ⟨Tryd.call57⟩
instance en58 : Ent Tryd.prog 58 := ⟨Tryd.call58⟩
instance en59 : Ent Tryd.prog 59 := ⟨Tryd.call59⟩
instance en60 : Ent Tryd.prog 60 := ⟨Tryd.call60⟩
instance en61 : Ent Tryd.prog 61 := ⟨Tryd.call61⟩
instance en62 : Ent Tryd.prog 62 := ⟨Tryd.call62⟩
instance en63 : Ent Tryd.prog 63 := ⟨Tryd.call63⟩
instance en64 : Ent Tryd.prog 64 := ⟨Tryd.call64⟩
instance en65 : Ent Tryd.prog 65 := ⟨Tryd.call65⟩
instance en66 : Ent Tryd.prog 66 := ⟨Tryd.call66⟩
instance en67 : Ent Tryd.prog 67 := ⟨Tryd.call67⟩
instance en68 : Ent Tryd.prog 68 := ⟨Tryd.call68⟩
instance en69 : Ent Tryd.prog 69 := ⟨Tryd.call69⟩
instance en70 : Ent Tryd.prog 70 := ⟨Tryd.call70⟩
instance en71 : Ent Tryd.prog 71 := ⟨Tryd.call71⟩
instance en72 : Ent Tryd.prog 72 := ⟨Tryd.call72⟩
instance en73 : Ent Tryd.prog 73 := ⟨Tryd.call73⟩
instance en74 : Ent Tryd.prog 74 := ⟨Tryd.call74⟩
instance en75 : Ent Tryd.prog 75 := ⟨Tryd.call75⟩
instance en76 : Ent Tryd.prog 76 := ⟨Tryd.call76⟩
instance en77 : Ent Tryd.prog 77 := ⟨Tryd.call77⟩
instance en78 : Ent Tryd.prog 78 := ⟨Tryd.call78⟩
instance en79 : Ent Tryd.prog 79 := ⟨Tryd.call79⟩
instance en80 : Ent Tryd.prog 80 := ⟨Tryd.call80⟩
instance en81 : Ent Tryd.prog 81 := ⟨Tryd.call81⟩
instance en82 : Ent Tryd.prog 82 := ⟨Tryd.call82⟩
instance en83 : Ent Tryd.prog 83 := ⟨Tryd.call83⟩
instance en84 : Ent Tryd.prog 84 := ⟨Tryd.call84⟩
instance en85 : Ent Tryd.prog 85 := ⟨Tryd.call85⟩
instance en86 : Ent Tryd.prog 86 := ⟨Tryd.call86⟩
instance en89 : Ent Tryd.prog 89 := ⟨Tryd.call89⟩
instance en91 : Ent Tryd.prog 91 := ⟨Tryd.call91⟩
instance en92 : Ent Tryd.prog 92 := ⟨Tryd.call92⟩
instance en93 : Ent Tryd.prog 93 := ⟨Tryd.call93⟩
instance en94 : Ent Tryd.prog 94 := ⟨Tryd.call94⟩
instance en95 : Ent Tryd.prog 95 := ⟨Tryd.call95⟩
instance en96 : Ent Tryd.prog 96 := ⟨Tryd.call96⟩
instance en97 : Ent Tryd.prog 97 := ⟨Tryd.call97⟩
instance en98 : Ent Tryd.prog 98 := ⟨Tryd.call98⟩
instance en100 : Ent Tryd.prog 100 := ⟨Tryd.call100⟩
instance en101 : Ent Tryd.prog 101 := ⟨Tryd.call101⟩
instance en102 : Ent Tryd.prog 102 := ⟨Tryd.call102⟩
instance en103 : Ent Tryd.prog 103 := ⟨Tryd.call103⟩
instance en104 : Ent Tryd.prog 104 := ⟨Tryd.call104⟩
instance en105 : Ent Tryd.prog 105 := ⟨Tryd.call105⟩
instance en106 : Ent Tryd.prog 106 := ⟨Tryd.call106⟩
instance en107 : Ent Tryd.prog 107 := ⟨Tryd.call107⟩
instance en108 : Ent Tryd.prog 108 := ⟨Tryd.call108⟩
instance en109 : Ent Tryd.prog 109 := ⟨Tryd.call109⟩
instance en137 : Ent Tryd.prog 137 := ⟨Tryd.call137⟩
end Go.Proofs.YtbhbjlhobdoomaaDoor
