/- What the program says of its types, for the walks. -/
import Derived.Test.YtdgpcjifhhjnaaaVmO
import Derived.Test.YtdgpcjifhhjnaaaProg
import Derived.Shelf.Abstract
namespace Go.Proofs.Ytdgpcjifhhjnaaa.Vm
open Go.Vm
set_option maxRecDepth 10000
instance : IntT Try.prog 3 .i64 := ⟨by kernel_rfl⟩
instance : Sz Try.prog 3 1 := ⟨by kernel_rfl⟩
instance : Ag Try.prog 3 false := ⟨by kernel_rfl⟩
instance : Zr Try.prog 3 ([.int .i64 0]) := ⟨by kernel_rfl⟩
instance : BoolT Try.prog 4 := ⟨by kernel_rfl⟩
instance : Sz Try.prog 4 1 := ⟨by kernel_rfl⟩
instance : Ag Try.prog 4 false := ⟨by kernel_rfl⟩
instance : Zr Try.prog 4 ([.bool false]) := ⟨by kernel_rfl⟩
instance : IntT Try.prog 5 .u8 := ⟨by kernel_rfl⟩
instance : Sz Try.prog 5 1 := ⟨by kernel_rfl⟩
instance : Ag Try.prog 5 false := ⟨by kernel_rfl⟩
instance : Zr Try.prog 5 ([.int .u8 0]) := ⟨by kernel_rfl⟩
instance : SlT Try.prog 22 25 := ⟨by kernel_rfl⟩
instance : EltI Try.prog 22 25 1 24 := ⟨elt_of (z := .slice none 0 0) (by kernel_rfl) (by kernel_rfl) (by decide) (by rfl)⟩
instance : Sz Try.prog 22 1 := ⟨by kernel_rfl⟩
instance : Ag Try.prog 22 false := ⟨by kernel_rfl⟩
instance : Zr Try.prog 22 ([.nil]) := ⟨by kernel_rfl⟩
instance : Sz Try.prog 24 2 := ⟨by kernel_rfl⟩
instance : Ag Try.prog 24 true := ⟨by kernel_rfl⟩
instance : Zr Try.prog 24 ([.nil, .nil]) := ⟨by kernel_rfl⟩
instance : Pl Try.prog 24 ([(0, 1), (1, 1)]) := ⟨by kernel_rfl⟩
instance : Fo Try.prog 24 0 0 := ⟨by kernel_rfl⟩
instance : Fo Try.prog 24 1 1 := ⟨by kernel_rfl⟩
instance : SlT Try.prog 25 5 := ⟨by kernel_rfl⟩
instance : EltI Try.prog 25 5 1 1 := ⟨elt_of (z := .int .u8 0) (by kernel_rfl) (by kernel_rfl) (by decide) (by rfl)⟩
instance : Sz Try.prog 25 1 := ⟨by kernel_rfl⟩
instance : Ag Try.prog 25 false := ⟨by kernel_rfl⟩
instance : Zr Try.prog 25 ([.nil]) := ⟨by kernel_rfl⟩
instance : IntT Try.prog 27 .i64 := ⟨by kernel_rfl⟩
instance : Sz Try.prog 27 1 := ⟨by kernel_rfl⟩
instance : Ag Try.prog 27 false := ⟨by kernel_rfl⟩
instance : Zr Try.prog 27 ([.int .i64 0]) := ⟨by kernel_rfl⟩
instance : IntT Try.prog 35 .u64 := ⟨by kernel_rfl⟩
instance : Sz Try.prog 35 1 := ⟨by kernel_rfl⟩
instance : Ag Try.prog 35 false := ⟨by kernel_rfl⟩
instance : Zr Try.prog 35 ([.int .u64 0]) := ⟨by kernel_rfl⟩
instance : Sz Try.prog 95 1 := ⟨by kernel_rfl⟩
instance : Ag Try.prog 95 false := ⟨by kernel_rfl⟩
instance : Zr Try.prog 95 ([.val (.pointer none)]) := ⟨by kernel_rfl⟩
instance : En Try.prog 3 := ⟨enters_of Try.func3 (by kernel_rfl) rfl⟩
instance : En Try.prog 5 := ⟨enters_of Try.func5 (by kernel_rfl) rfl⟩
instance : En Try.prog 9 := ⟨enters_of Try.func9 (by kernel_rfl) rfl⟩
instance : En Try.prog 10 := ⟨enters_of Try.func10 (by kernel_rfl) rfl⟩
instance : En Try.prog 11 := ⟨enters_of Try.func11 (by kernel_rfl) rfl⟩
instance : En Try.prog 12 := ⟨enters_of Try.func12 (by kernel_rfl) rfl⟩
instance : En Try.prog 13 := ⟨enters_of Try.func13 (by kernel_rfl) rfl⟩
instance : En Try.prog 14 := ⟨enters_of Try.func14 (by kernel_rfl) rfl⟩
instance : En Try.prog 15 := ⟨enters_of Try.func15 (by kernel_rfl) rfl⟩
instance : En Try.prog 16 := ⟨enters_of Try.func16 (by kernel_rfl) rfl⟩
instance : En Try.prog 17 := ⟨enters_of Try.func17 (by kernel_rfl) rfl⟩
instance : En Try.prog 18 := ⟨enters_of Try.func18 (by kernel_rfl) rfl⟩
instance : En Try.prog 24 := ⟨enters_of Try.func24 (by kernel_rfl) rfl⟩
instance : En Try.prog 48 := ⟨enters_of Try.func48 (by kernel_rfl) rfl⟩
instance : En Try.prog 49 := ⟨enters_of Try.func49 (by kernel_rfl) rfl⟩
instance : En Try.prog 50 := ⟨enters_of Try.func50 (by kernel_rfl) rfl⟩
instance : En Try.prog 51 := ⟨enters_of Try.func51 (by kernel_rfl) rfl⟩
instance : En Try.prog 52 := ⟨enters_of Try.func52 (by kernel_rfl) rfl⟩
instance : En Try.prog 54 := ⟨enters_of Try.func54 (by kernel_rfl) rfl⟩
instance : En Try.prog 84 := ⟨enters_of Try.func84 (by kernel_rfl) rfl⟩
instance : En Try.prog 101 := ⟨enters_of Try.func101 (by kernel_rfl) rfl⟩
instance : Mixed Try.prog := ⟨by kernel_rfl⟩
end Go.Proofs.Ytdgpcjifhhjnaaa.Vm
