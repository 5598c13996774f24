/- Texts of this claim, one behind the other: Tab, Rv, Eng11. -/
import Derived.Test.YtfcnimglcialbaaMg3
import Derived.Test.YtfcnimglcialbaaMg1
import Derived.Test.YtfcnimglcialbaaMg2
import Derived.Laws.BitsAllLaws
/- What each type and function of the program is, as facts that the engine looks up. -/
namespace Go.Proofs.Ytfcnimglcialbaa
set_option linter.unusedVariables false
instance : LD Try.prog 3 1 false := ⟨by kernel_rfl⟩
instance : IK Try.prog 3 .i64 := ⟨by kernel_rfl⟩
instance : ZV Try.prog 3 [.int .i64 0] := ⟨by kernel_rfl⟩
instance : LD Try.prog 4 1 false := ⟨by kernel_rfl⟩
instance : ZV Try.prog 4 [.bool false] := ⟨by kernel_rfl⟩
instance : LD Try.prog 5 1 false := ⟨by kernel_rfl⟩
instance : IK Try.prog 5 .u8 := ⟨by kernel_rfl⟩
instance : ZV Try.prog 5 [.int .u8 0] := ⟨by kernel_rfl⟩
instance : LD Try.prog 9 1 false := ⟨by kernel_rfl⟩
instance : SS Try.prog 9 := ⟨by kernel_rfl⟩
instance : ZV Try.prog 9 [.string ⟨#[]⟩] := ⟨by kernel_rfl⟩
instance : LD Try.prog 25 1 false := ⟨by kernel_rfl⟩
instance : EL Try.prog 25 5 1 1 := ⟨by kernel_rfl⟩
instance : ZV Try.prog 25 [.slice none 0 0] := ⟨by kernel_rfl⟩
instance : LD Try.prog 28 1 false := ⟨by kernel_rfl⟩
instance : EL Try.prog 28 132 3 32 := ⟨by kernel_rfl⟩
instance : ZV Try.prog 28 [.slice none 0 0] := ⟨by kernel_rfl⟩
instance : LD Try.prog 30 2 true := ⟨by kernel_rfl⟩
instance : FO Try.prog 30 0 0 := ⟨by kernel_rfl⟩
instance : FO Try.prog 30 1 1 := ⟨by kernel_rfl⟩
instance : ST Try.prog 30 [.int .i64 0, .slice none 0 0] [(0, 1), (1, 1)] := ⟨by kernel_rfl⟩
instance : ZV Try.prog 30 [.int .i64 0, .slice none 0 0] := ⟨by kernel_rfl⟩
instance : LD Try.prog 38 1 false := ⟨by kernel_rfl⟩
instance : EL Try.prog 38 231 1 24 := ⟨by kernel_rfl⟩
instance : ZV Try.prog 38 [.slice none 0 0] := ⟨by kernel_rfl⟩
instance : LD Try.prog 40 4 true := ⟨by kernel_rfl⟩
instance : FO Try.prog 40 0 0 := ⟨by kernel_rfl⟩
instance : FO Try.prog 40 1 1 := ⟨by kernel_rfl⟩
instance : FO Try.prog 40 2 2 := ⟨by kernel_rfl⟩
instance : FO Try.prog 40 3 3 := ⟨by kernel_rfl⟩
instance : ST Try.prog 40 [.slice none 0 0, .int .i64 0, .string ⟨#[]⟩, .bool false] [(0, 1), (1, 1), (2, 1), (3, 1)] := ⟨by kernel_rfl⟩
instance : ZV Try.prog 40 [.slice none 0 0, .int .i64 0, .string ⟨#[]⟩, .bool false] := ⟨by kernel_rfl⟩
instance : LD Try.prog 43 1 false := ⟨by kernel_rfl⟩
instance : EL Try.prog 43 147 1 24 := ⟨by kernel_rfl⟩
instance : ZV Try.prog 43 [.slice none 0 0] := ⟨by kernel_rfl⟩
instance : LD Try.prog 45 4 true := ⟨by kernel_rfl⟩
instance : FO Try.prog 45 0 0 := ⟨by kernel_rfl⟩
instance : FO Try.prog 45 1 1 := ⟨by kernel_rfl⟩
instance : FO Try.prog 45 2 2 := ⟨by kernel_rfl⟩
instance : FO Try.prog 45 3 3 := ⟨by kernel_rfl⟩
instance : ST Try.prog 45 [.slice none 0 0, .int .i64 0, .string ⟨#[]⟩, .bool false] [(0, 1), (1, 1), (2, 1), (3, 1)] := ⟨by kernel_rfl⟩
instance : ZV Try.prog 45 [.slice none 0 0, .int .i64 0, .string ⟨#[]⟩, .bool false] := ⟨by kernel_rfl⟩
instance : LD Try.prog 49 1 false := ⟨by kernel_rfl⟩
instance : EL Try.prog 49 3 1 8 := ⟨by kernel_rfl⟩
instance : ZV Try.prog 49 [.slice none 0 0] := ⟨by kernel_rfl⟩
instance : LD Try.prog 51 4 true := ⟨by kernel_rfl⟩
instance : FO Try.prog 51 0 0 := ⟨by kernel_rfl⟩
instance : FO Try.prog 51 1 1 := ⟨by kernel_rfl⟩
instance : FO Try.prog 51 2 2 := ⟨by kernel_rfl⟩
instance : FO Try.prog 51 3 3 := ⟨by kernel_rfl⟩
instance : ST Try.prog 51 [.slice none 0 0, .slice none 0 0, .slice none 0 0, .int .i64 0] [(0, 1), (1, 1), (2, 1), (3, 1)] := ⟨by kernel_rfl⟩
instance : ZV Try.prog 51 [.slice none 0 0, .slice none 0 0, .slice none 0 0, .int .i64 0] := ⟨by kernel_rfl⟩
instance : LD Try.prog 61 1 false := ⟨by kernel_rfl⟩
instance : EL Try.prog 61 192 2 32 := ⟨by kernel_rfl⟩
instance : ZV Try.prog 61 [.slice none 0 0] := ⟨by kernel_rfl⟩
instance : LD Try.prog 62 1 false := ⟨by kernel_rfl⟩
instance : EL Try.prog 62 9 1 16 := ⟨by kernel_rfl⟩
instance : ZV Try.prog 62 [.slice none 0 0] := ⟨by kernel_rfl⟩
instance : LD Try.prog 64 2 true := ⟨by kernel_rfl⟩
instance : FO Try.prog 64 0 0 := ⟨by kernel_rfl⟩
instance : FO Try.prog 64 1 1 := ⟨by kernel_rfl⟩
instance : ST Try.prog 64 [.slice none 0 0, .slice none 0 0] [(0, 1), (1, 1)] := ⟨by kernel_rfl⟩
instance : ZV Try.prog 64 [.slice none 0 0, .slice none 0 0] := ⟨by kernel_rfl⟩
instance : LD Try.prog 67 1 false := ⟨by kernel_rfl⟩
instance : EL Try.prog 67 162 2 32 := ⟨by kernel_rfl⟩
instance : ZV Try.prog 67 [.slice none 0 0] := ⟨by kernel_rfl⟩
instance : LD Try.prog 69 2 true := ⟨by kernel_rfl⟩
instance : FO Try.prog 69 0 0 := ⟨by kernel_rfl⟩
instance : FO Try.prog 69 1 1 := ⟨by kernel_rfl⟩
instance : ST Try.prog 69 [.slice none 0 0, .slice none 0 0] [(0, 1), (1, 1)] := ⟨by kernel_rfl⟩
instance : ZV Try.prog 69 [.slice none 0 0, .slice none 0 0] := ⟨by kernel_rfl⟩
instance : LD Try.prog 78 2 true := ⟨by kernel_rfl⟩
instance : FO Try.prog 78 0 0 := ⟨by kernel_rfl⟩
instance : FO Try.prog 78 1 1 := ⟨by kernel_rfl⟩
instance : ST Try.prog 78 [.int .i64 0, .string ⟨#[]⟩] [(0, 1), (1, 1)] := ⟨by kernel_rfl⟩
instance : ZV Try.prog 78 [.int .i64 0, .string ⟨#[]⟩] := ⟨by kernel_rfl⟩
instance : LD Try.prog 83 1 false := ⟨by kernel_rfl⟩
instance : EL Try.prog 83 250 2 24 := ⟨by kernel_rfl⟩
instance : ZV Try.prog 83 [.slice none 0 0] := ⟨by kernel_rfl⟩
instance : LD Try.prog 85 4 true := ⟨by kernel_rfl⟩
instance : FO Try.prog 85 0 0 := ⟨by kernel_rfl⟩
instance : FO Try.prog 85 1 1 := ⟨by kernel_rfl⟩
instance : FO Try.prog 85 2 2 := ⟨by kernel_rfl⟩
instance : FO Try.prog 85 3 3 := ⟨by kernel_rfl⟩
instance : ST Try.prog 85 [.string ⟨#[]⟩, .string ⟨#[]⟩, .slice none 0 0, .int .i64 0] [(0, 1), (1, 1), (2, 1), (3, 1)] := ⟨by kernel_rfl⟩
instance : ZV Try.prog 85 [.string ⟨#[]⟩, .string ⟨#[]⟩, .slice none 0 0, .int .i64 0] := ⟨by kernel_rfl⟩
instance : LD Try.prog 88 1 false := ⟨by kernel_rfl⟩
instance : EL Try.prog 88 111 2 24 := ⟨by kernel_rfl⟩
instance : ZV Try.prog 88 [.slice none 0 0] := ⟨by kernel_rfl⟩
instance : LD Try.prog 90 4 true := ⟨by kernel_rfl⟩
instance : FO Try.prog 90 0 0 := ⟨by kernel_rfl⟩
instance : FO Try.prog 90 1 1 := ⟨by kernel_rfl⟩
instance : FO Try.prog 90 2 2 := ⟨by kernel_rfl⟩
instance : FO Try.prog 90 3 3 := ⟨by kernel_rfl⟩
instance : ST Try.prog 90 [.string ⟨#[]⟩, .string ⟨#[]⟩, .slice none 0 0, .int .i64 0] [(0, 1), (1, 1), (2, 1), (3, 1)] := ⟨by kernel_rfl⟩
instance : ZV Try.prog 90 [.string ⟨#[]⟩, .string ⟨#[]⟩, .slice none 0 0, .int .i64 0] := ⟨by kernel_rfl⟩
instance : LD Try.prog 111 2 true := ⟨by kernel_rfl⟩
instance : FO Try.prog 111 0 0 := ⟨by kernel_rfl⟩
instance : FO Try.prog 111 1 1 := ⟨by kernel_rfl⟩
instance : ST Try.prog 111 [.int .i64 0, .string ⟨#[]⟩] [(0, 1), (1, 1)] := ⟨by kernel_rfl⟩
instance : ZV Try.prog 111 [.int .i64 0, .string ⟨#[]⟩] := ⟨by kernel_rfl⟩
instance : LD Try.prog 112 1 false := ⟨by kernel_rfl⟩
instance : EL Try.prog 112 209 3 40 := ⟨by kernel_rfl⟩
instance : ZV Try.prog 112 [.slice none 0 0] := ⟨by kernel_rfl⟩
instance : LD Try.prog 114 1 false := ⟨by kernel_rfl⟩
instance : EL Try.prog 114 210 3 40 := ⟨by kernel_rfl⟩
instance : ZV Try.prog 114 [.slice none 0 0] := ⟨by kernel_rfl⟩
instance : LD Try.prog 126 3 true := ⟨by kernel_rfl⟩
instance : FO Try.prog 126 0 0 := ⟨by kernel_rfl⟩
instance : FO Try.prog 126 1 1 := ⟨by kernel_rfl⟩
instance : FO Try.prog 126 2 2 := ⟨by kernel_rfl⟩
instance : ST Try.prog 126 [.string ⟨#[]⟩, .int .i64 0, .bool false] [(0, 1), (1, 1), (2, 1)] := ⟨by kernel_rfl⟩
instance : ZV Try.prog 126 [.string ⟨#[]⟩, .int .i64 0, .bool false] := ⟨by kernel_rfl⟩
instance : LD Try.prog 132 3 true := ⟨by kernel_rfl⟩
instance : FO Try.prog 132 0 0 := ⟨by kernel_rfl⟩
instance : FO Try.prog 132 1 1 := ⟨by kernel_rfl⟩
instance : FO Try.prog 132 2 2 := ⟨by kernel_rfl⟩
instance : ST Try.prog 132 [.int .i64 0, .int .i64 0, .string ⟨#[]⟩] [(0, 1), (1, 1), (2, 1)] := ⟨by kernel_rfl⟩
instance : ZV Try.prog 132 [.int .i64 0, .int .i64 0, .string ⟨#[]⟩] := ⟨by kernel_rfl⟩
instance : LD Try.prog 138 1 false := ⟨by kernel_rfl⟩
instance : ZV Try.prog 138 [.pointer none] := ⟨by kernel_rfl⟩
instance : LD Try.prog 147 1 false := ⟨by kernel_rfl⟩
instance : EL Try.prog 147 234 4 48 := ⟨by kernel_rfl⟩
instance : ZV Try.prog 147 [.slice none 0 0] := ⟨by kernel_rfl⟩
instance : LD Try.prog 162 2 true := ⟨by kernel_rfl⟩
instance : FO Try.prog 162 0 0 := ⟨by kernel_rfl⟩
instance : FO Try.prog 162 1 1 := ⟨by kernel_rfl⟩
instance : ST Try.prog 162 [.string ⟨#[]⟩, .string ⟨#[]⟩] [(0, 1), (1, 1)] := ⟨by kernel_rfl⟩
instance : ZV Try.prog 162 [.string ⟨#[]⟩, .string ⟨#[]⟩] := ⟨by kernel_rfl⟩
instance : LD Try.prog 164 1 false := ⟨by kernel_rfl⟩
instance : ZV Try.prog 164 [.pointer none] := ⟨by kernel_rfl⟩
instance : LD Try.prog 166 2 true := ⟨by kernel_rfl⟩
instance : FO Try.prog 166 0 0 := ⟨by kernel_rfl⟩
instance : FO Try.prog 166 1 1 := ⟨by kernel_rfl⟩
instance : ST Try.prog 166 [.pointer none, .slice none 0 0] [(0, 1), (1, 1)] := ⟨by kernel_rfl⟩
instance : ZV Try.prog 166 [.pointer none, .slice none 0 0] := ⟨by kernel_rfl⟩
instance : LD Try.prog 192 2 true := ⟨by kernel_rfl⟩
instance : FO Try.prog 192 0 0 := ⟨by kernel_rfl⟩
instance : FO Try.prog 192 1 1 := ⟨by kernel_rfl⟩
instance : ST Try.prog 192 [.string ⟨#[]⟩, .string ⟨#[]⟩] [(0, 1), (1, 1)] := ⟨by kernel_rfl⟩
instance : ZV Try.prog 192 [.string ⟨#[]⟩, .string ⟨#[]⟩] := ⟨by kernel_rfl⟩
instance : LD Try.prog 196 3 true := ⟨by kernel_rfl⟩
instance : FO Try.prog 196 0 0 := ⟨by kernel_rfl⟩
instance : FO Try.prog 196 1 1 := ⟨by kernel_rfl⟩
instance : FO Try.prog 196 2 2 := ⟨by kernel_rfl⟩
instance : ST Try.prog 196 [.string ⟨#[]⟩, .bool false, .string ⟨#[]⟩] [(0, 1), (1, 1), (2, 1)] := ⟨by kernel_rfl⟩
instance : ZV Try.prog 196 [.string ⟨#[]⟩, .bool false, .string ⟨#[]⟩] := ⟨by kernel_rfl⟩
instance : LD Try.prog 209 3 true := ⟨by kernel_rfl⟩
instance : FO Try.prog 209 0 0 := ⟨by kernel_rfl⟩
instance : FO Try.prog 209 1 1 := ⟨by kernel_rfl⟩
instance : FO Try.prog 209 2 2 := ⟨by kernel_rfl⟩
instance : ST Try.prog 209 [.int .i64 0, .string ⟨#[]⟩, .string ⟨#[]⟩] [(0, 1), (1, 1), (2, 1)] := ⟨by kernel_rfl⟩
instance : ZV Try.prog 209 [.int .i64 0, .string ⟨#[]⟩, .string ⟨#[]⟩] := ⟨by kernel_rfl⟩
instance : LD Try.prog 210 3 true := ⟨by kernel_rfl⟩
instance : FO Try.prog 210 0 0 := ⟨by kernel_rfl⟩
instance : FO Try.prog 210 1 1 := ⟨by kernel_rfl⟩
instance : FO Try.prog 210 2 2 := ⟨by kernel_rfl⟩
instance : ST Try.prog 210 [.int .i64 0, .string ⟨#[]⟩, .string ⟨#[]⟩] [(0, 1), (1, 1), (2, 1)] := ⟨by kernel_rfl⟩
instance : ZV Try.prog 210 [.int .i64 0, .string ⟨#[]⟩, .string ⟨#[]⟩] := ⟨by kernel_rfl⟩
instance : LD Try.prog 224 1 false := ⟨by kernel_rfl⟩
instance : ZV Try.prog 224 [.pointer none] := ⟨by kernel_rfl⟩
instance : LD Try.prog 228 3 true := ⟨by kernel_rfl⟩
instance : FO Try.prog 228 0 0 := ⟨by kernel_rfl⟩
instance : FO Try.prog 228 1 1 := ⟨by kernel_rfl⟩
instance : FO Try.prog 228 2 2 := ⟨by kernel_rfl⟩
instance : ST Try.prog 228 [.slice none 0 0, .int .i64 0, .int .i64 0] [(0, 1), (1, 1), (2, 1)] := ⟨by kernel_rfl⟩
instance : ZV Try.prog 228 [.slice none 0 0, .int .i64 0, .int .i64 0] := ⟨by kernel_rfl⟩
instance : LD Try.prog 231 1 false := ⟨by kernel_rfl⟩
instance : EL Try.prog 231 267 4 48 := ⟨by kernel_rfl⟩
instance : ZV Try.prog 231 [.slice none 0 0] := ⟨by kernel_rfl⟩
instance : LD Try.prog 234 4 true := ⟨by kernel_rfl⟩
instance : FO Try.prog 234 0 0 := ⟨by kernel_rfl⟩
instance : FO Try.prog 234 1 1 := ⟨by kernel_rfl⟩
instance : FO Try.prog 234 2 2 := ⟨by kernel_rfl⟩
instance : FO Try.prog 234 3 3 := ⟨by kernel_rfl⟩
instance : ST Try.prog 234 [.string ⟨#[]⟩, .int .i64 0, .bool false, .string ⟨#[]⟩] [(0, 1), (1, 1), (2, 1), (3, 1)] := ⟨by kernel_rfl⟩
instance : ZV Try.prog 234 [.string ⟨#[]⟩, .int .i64 0, .bool false, .string ⟨#[]⟩] := ⟨by kernel_rfl⟩
instance : LD Try.prog 240 1 false := ⟨by kernel_rfl⟩
instance : IK Try.prog 240 .u64 := ⟨by kernel_rfl⟩
instance : ZV Try.prog 240 [.int .u64 0] := ⟨by kernel_rfl⟩
instance : LD Try.prog 241 1 false := ⟨by kernel_rfl⟩
instance : ZV Try.prog 241 [.pointer none] := ⟨by kernel_rfl⟩
instance : LD Try.prog 244 1 false := ⟨by kernel_rfl⟩
instance : IK Try.prog 244 .u32 := ⟨by kernel_rfl⟩
instance : ZV Try.prog 244 [.int .u32 0] := ⟨by kernel_rfl⟩
instance : LD Try.prog 245 16 true := ⟨by kernel_rfl⟩
instance : ZV Try.prog 245 [.int .u32 0, .int .u32 0, .int .u32 0, .int .u32 0, .int .u32 0, .int .u32 0, .int .u32 0, .int .u32 0, .int .u32 0, .int .u32 0, .int .u32 0, .int .u32 0, .int .u32 0, .int .u32 0, .int .u32 0, .int .u32 0] := ⟨by kernel_rfl⟩
instance : LD Try.prog 248 1 false := ⟨by kernel_rfl⟩
instance : ZV Try.prog 248 [.pointer none] := ⟨by kernel_rfl⟩
instance : LD Try.prog 250 2 true := ⟨by kernel_rfl⟩
instance : FO Try.prog 250 0 0 := ⟨by kernel_rfl⟩
instance : FO Try.prog 250 1 1 := ⟨by kernel_rfl⟩
instance : ST Try.prog 250 [.int .i64 0, .string ⟨#[]⟩] [(0, 1), (1, 1)] := ⟨by kernel_rfl⟩
instance : ZV Try.prog 250 [.int .i64 0, .string ⟨#[]⟩] := ⟨by kernel_rfl⟩
instance : LD Try.prog 259 1 false := ⟨by kernel_rfl⟩
instance : EL Try.prog 259 62 1 24 := ⟨by kernel_rfl⟩
instance : ZV Try.prog 259 [.slice none 0 0] := ⟨by kernel_rfl⟩
instance : LD Try.prog 267 4 true := ⟨by kernel_rfl⟩
instance : FO Try.prog 267 0 0 := ⟨by kernel_rfl⟩
instance : FO Try.prog 267 1 1 := ⟨by kernel_rfl⟩
instance : FO Try.prog 267 2 2 := ⟨by kernel_rfl⟩
instance : FO Try.prog 267 3 3 := ⟨by kernel_rfl⟩
instance : ST Try.prog 267 [.string ⟨#[]⟩, .int .i64 0, .bool false, .string ⟨#[]⟩] [(0, 1), (1, 1), (2, 1), (3, 1)] := ⟨by kernel_rfl⟩
instance : ZV Try.prog 267 [.string ⟨#[]⟩, .int .i64 0, .bool false, .string ⟨#[]⟩] := ⟨by kernel_rfl⟩
instance : LD Try.prog 270 1 false := ⟨by kernel_rfl⟩
instance : ZV Try.prog 270 [.pointer none] := ⟨by kernel_rfl⟩
instance : LD Try.prog 291 1 false := ⟨by kernel_rfl⟩
instance : IK Try.prog 291 .u64 := ⟨by kernel_rfl⟩
instance : ZV Try.prog 291 [.int .u64 0] := ⟨by kernel_rfl⟩
instance : LD Try.prog 299 1 false := ⟨by kernel_rfl⟩
instance : IK Try.prog 299 .u64 := ⟨by kernel_rfl⟩
instance : ZV Try.prog 299 [.int .u64 0] := ⟨by kernel_rfl⟩
instance : LD Try.prog 303 1 false := ⟨by kernel_rfl⟩
instance : ZV Try.prog 303 [.pointer none] := ⟨by kernel_rfl⟩
instance : FN Try.prog 2 := ⟨⟨_, _, Try.func2, by kernel_rfl, rfl⟩⟩
instance : FN Try.prog 3 := ⟨⟨_, _, Try.func3, by kernel_rfl, rfl⟩⟩
instance : FN Try.prog 4 := ⟨⟨_, _, Try.func4, by kernel_rfl, rfl⟩⟩
instance : FN Try.prog 5 := ⟨⟨_, _, Try.func5, by kernel_rfl, rfl⟩⟩
instance : FN Try.prog 6 := ⟨⟨_, _, Try.func6, by kernel_rfl, rfl⟩⟩
instance : FN Try.prog 7 := ⟨⟨_, _, Try.func7, by kernel_rfl, rfl⟩⟩
instance : FN Try.prog 8 := ⟨⟨_, _, Try.func8, by kernel_rfl, rfl⟩⟩
instance : FN Try.prog 9 := ⟨⟨_, _, Try.func9, by kernel_rfl, rfl⟩⟩
instance : FN Try.prog 10 := ⟨⟨_, _, Try.func10, by kernel_rfl, rfl⟩⟩
instance : FN Try.prog 11 := ⟨⟨_, _, Try.func11, by kernel_rfl, rfl⟩⟩
instance : FN Try.prog 12 := ⟨⟨_, _, Try.func12, by kernel_rfl, rfl⟩⟩
instance : FN Try.prog 13 := ⟨⟨_, _, Try.func13, by kernel_rfl, rfl⟩⟩
instance : FN Try.prog 14 := ⟨⟨_, _, Try.func14, by kernel_rfl, rfl⟩⟩
instance : FN Try.prog 15 := ⟨⟨_, _, Try.func15, by kernel_rfl, rfl⟩⟩
instance : FN Try.prog 16 := ⟨⟨_, _, Try.func16, by kernel_rfl, rfl⟩⟩
instance : FN Try.prog 17 := ⟨⟨_, _, Try.func17, by kernel_rfl, rfl⟩⟩
instance : FN Try.prog 18 := ⟨⟨_, _, Try.func18, by kernel_rfl, rfl⟩⟩
instance : FN Try.prog 19 := ⟨⟨_, _, Try.func19, by kernel_rfl, rfl⟩⟩
instance : FN Try.prog 20 := ⟨⟨_, _, Try.func20, by kernel_rfl, rfl⟩⟩
instance : FN Try.prog 21 := ⟨⟨_, _, Try.func21, by kernel_rfl, rfl⟩⟩
instance : FN Try.prog 22 := ⟨⟨_, _, Try.func22, by kernel_rfl, rfl⟩⟩
instance : FN Try.prog 23 := ⟨⟨_, _, Try.func23, by kernel_rfl, rfl⟩⟩
instance : FN Try.prog 24 := ⟨⟨_, _, Try.func24, by kernel_rfl, rfl⟩⟩
instance : FN Try.prog 25 := ⟨⟨_, _, Try.func25, by kernel_rfl, rfl⟩⟩
instance : FN Try.prog 26 := ⟨⟨_, _, Try.func26, by kernel_rfl, rfl⟩⟩
instance : FN Try.prog 27 := ⟨⟨_, _, Try.func27, by kernel_rfl, rfl⟩⟩
instance : FN Try.prog 28 := ⟨⟨_, _, Try.func28, by kernel_rfl, rfl⟩⟩
instance : FN Try.prog 29 := ⟨⟨_, _, Try.func29, by kernel_rfl, rfl⟩⟩
instance : FN Try.prog 30 := ⟨⟨_, _, Try.func30, by kernel_rfl, rfl⟩⟩
instance : FN Try.prog 31 := ⟨⟨_, _, Try.func31, by kernel_rfl, rfl⟩⟩
instance : FN Try.prog 32 := ⟨⟨_, _, Try.func32, by kernel_rfl, rfl⟩⟩
instance : FN Try.prog 33 := ⟨⟨_, _, Try.func33, by kernel_rfl, rfl⟩⟩
instance : FN Try.prog 34 := ⟨⟨_, _, Try.func34, by kernel_rfl, rfl⟩⟩
instance : FN Try.prog 35 := ⟨⟨_, _, Try.func35, by kernel_rfl, rfl⟩⟩
instance : FN Try.prog 36 := ⟨⟨_, _, Try.func36, by kernel_rfl, rfl⟩⟩
instance : FN Try.prog 37 := ⟨⟨_, _, Try.func37, by kernel_rfl, rfl⟩⟩
instance : FN Try.prog 38 := ⟨⟨_, _, Try.func38, by kernel_rfl, rfl⟩⟩
instance : FN Try.prog 39 := ⟨⟨_, _, Try.func39, by kernel_rfl, rfl⟩⟩
instance : FN Try.prog 40 := ⟨⟨_, _, Try.func40, by kernel_rfl, rfl⟩⟩
instance : FN Try.prog 41 := ⟨⟨_, _, Try.func41, by kernel_rfl, rfl⟩⟩
instance : FN Try.prog 42 := ⟨⟨_, _, Try.func42, by kernel_rfl, rfl⟩⟩
instance : FN Try.prog 43 := ⟨⟨_, _, Try.func43, by kernel_rfl, rfl⟩⟩
instance : FN Try.prog 44 := ⟨⟨_, _, Try.func44, by kernel_rfl, rfl⟩⟩
instance : FN Try.prog 45 := ⟨⟨_, _, Try.func45, by kernel_rfl, rfl⟩⟩
instance : FN Try.prog 46 := ⟨⟨_, _, Try.func46, by kernel_rfl, rfl⟩⟩
instance : FN Try.prog 47 := ⟨⟨_, _, Try.func47, by kernel_rfl, rfl⟩⟩
instance : FN Try.prog 48 := ⟨⟨_, _, Try.func48, by kernel_rfl, rfl⟩⟩
instance : FN Try.prog 49 := ⟨⟨_, _, Try.func49, by kernel_rfl, rfl⟩⟩
instance : FN Try.prog 50 := ⟨⟨_, _, Try.func50, by kernel_rfl, rfl⟩⟩
instance : FN Try.prog 51 := ⟨⟨_, _, Try.func51, by kernel_rfl, rfl⟩⟩
instance : FN Try.prog 52 := ⟨⟨_, _, Try.func52, by kernel_rfl, rfl⟩⟩
instance : FN Try.prog 53 := ⟨⟨_, _, Try.func53, by kernel_rfl, rfl⟩⟩
instance : FN Try.prog 54 := ⟨⟨_, _, Try.func54, by kernel_rfl, rfl⟩⟩
instance : FN Try.prog 55 := ⟨⟨_, _, Try.func55, by kernel_rfl, rfl⟩⟩
instance : FN Try.prog 56 := ⟨⟨_, _, Try.func56, by kernel_rfl, rfl⟩⟩
instance : FN Try.prog 57 := ⟨⟨_, _, Try.func57, by kernel_rfl, rfl⟩⟩
instance : FN Try.prog 58 := ⟨⟨_, _, Try.func58, by kernel_rfl, rfl⟩⟩
instance : FN Try.prog 59 := ⟨⟨_, _, Try.func59, by kernel_rfl, rfl⟩⟩
instance : FN Try.prog 60 := ⟨⟨_, _, Try.func60, by kernel_rfl, rfl⟩⟩
instance : FN Try.prog 61 := ⟨⟨_, _, Try.func61, by kernel_rfl, rfl⟩⟩
instance : FN Try.prog 62 := ⟨⟨_, _, Try.func62, by kernel_rfl, rfl⟩⟩
instance : FN Try.prog 63 := ⟨⟨_, _, Try.func63, by kernel_rfl, rfl⟩⟩
instance : FN Try.prog 64 := ⟨⟨_, _, Try.func64, by kernel_rfl, rfl⟩⟩
instance : FN Try.prog 65 := ⟨⟨_, _, Try.func65, by kernel_rfl, rfl⟩⟩
instance : FN Try.prog 66 := ⟨⟨_, _, Try.func66, by kernel_rfl, rfl⟩⟩
instance : FN Try.prog 67 := ⟨⟨_, _, Try.func67, by kernel_rfl, rfl⟩⟩
instance : FN Try.prog 68 := ⟨⟨_, _, Try.func68, by kernel_rfl, rfl⟩⟩
instance : FN Try.prog 69 := ⟨⟨_, _, Try.func69, by kernel_rfl, rfl⟩⟩
instance : FN Try.prog 70 := ⟨⟨_, _, Try.func70, by kernel_rfl, rfl⟩⟩
instance : FN Try.prog 71 := ⟨⟨_, _, Try.func71, by kernel_rfl, rfl⟩⟩
instance : FN Try.prog 72 := ⟨⟨_, _, Try.func72, by kernel_rfl, rfl⟩⟩
instance : FN Try.prog 73 := ⟨⟨_, _, Try.func73, by kernel_rfl, rfl⟩⟩
instance : FN Try.prog 74 := ⟨⟨_, _, Try.func74, by kernel_rfl, rfl⟩⟩
instance : FN Try.prog 75 := ⟨⟨_, _, Try.func75, by kernel_rfl, rfl⟩⟩
instance : FN Try.prog 76 := ⟨⟨_, _, Try.func76, by kernel_rfl, rfl⟩⟩
instance : FN Try.prog 77 := ⟨⟨_, _, Try.func77, by kernel_rfl, rfl⟩⟩
instance : FN Try.prog 78 := ⟨⟨_, _, Try.func78, by kernel_rfl, rfl⟩⟩
instance : FN Try.prog 79 := ⟨⟨_, _, Try.func79, by kernel_rfl, rfl⟩⟩
instance : FN Try.prog 80 := ⟨⟨_, _, Try.func80, by kernel_rfl, rfl⟩⟩
instance : FN Try.prog 81 := ⟨⟨_, _, Try.func81, by kernel_rfl, rfl⟩⟩
instance : FN Try.prog 82 := ⟨⟨_, _, Try.func82, by kernel_rfl, rfl⟩⟩
instance : FN Try.prog 83 := ⟨⟨_, _, Try.func83, by kernel_rfl, rfl⟩⟩
instance : FN Try.prog 84 := ⟨⟨_, _, Try.func84, by kernel_rfl, rfl⟩⟩
instance : FN Try.prog 85 := ⟨⟨_, _, Try.func85, by kernel_rfl, rfl⟩⟩
instance : FN Try.prog 86 := ⟨⟨_, _, Try.func86, by kernel_rfl, rfl⟩⟩
instance : FN Try.prog 87 := ⟨⟨_, _, Try.func87, by kernel_rfl, rfl⟩⟩
instance : FN Try.prog 88 := ⟨⟨_, _, Try.func88, by kernel_rfl, rfl⟩⟩
instance : FN Try.prog 89 := ⟨⟨_, _, Try.func89, by kernel_rfl, rfl⟩⟩
instance : FN Try.prog 90 := ⟨⟨_, _, Try.func90, by kernel_rfl, rfl⟩⟩
instance : FN Try.prog 91 := ⟨⟨_, _, Try.func91, by kernel_rfl, rfl⟩⟩
instance : FN Try.prog 92 := ⟨⟨_, _, Try.func92, by kernel_rfl, rfl⟩⟩
instance : FN Try.prog 93 := ⟨⟨_, _, Try.func93, by kernel_rfl, rfl⟩⟩
instance : FN Try.prog 94 := ⟨⟨_, _, Try.func94, by kernel_rfl, rfl⟩⟩
instance : FN Try.prog 95 := ⟨⟨_, _, Try.func95, by kernel_rfl, rfl⟩⟩
instance : FN Try.prog 96 := ⟨⟨_, _, Try.func96, by kernel_rfl, rfl⟩⟩
instance : FN Try.prog 97 := ⟨⟨_, _, Try.func97, by kernel_rfl, rfl⟩⟩
instance : FN Try.prog 98 := ⟨⟨_, _, Try.func98, by kernel_rfl, rfl⟩⟩
instance : FN Try.prog 99 := ⟨⟨_, _, Try.func99, by kernel_rfl, rfl⟩⟩
instance : FN Try.prog 100 := ⟨⟨_, _, Try.func100, by kernel_rfl, rfl⟩⟩
instance : FN Try.prog 101 := ⟨⟨_, _, Try.func101, by kernel_rfl, rfl⟩⟩
instance : FN Try.prog 102 := ⟨⟨_, _, Try.func102, by kernel_rfl, rfl⟩⟩
instance : FN Try.prog 103 := ⟨⟨_, _, Try.func103, by kernel_rfl, rfl⟩⟩
instance : FN Try.prog 104 := ⟨⟨_, _, Try.func104, by kernel_rfl, rfl⟩⟩
instance : FN Try.prog 105 := ⟨⟨_, _, Try.func105, by kernel_rfl, rfl⟩⟩
instance : FN Try.prog 106 := ⟨⟨_, _, Try.func106, by kernel_rfl, rfl⟩⟩
instance : FN Try.prog 107 := ⟨⟨_, _, Try.func107, by kernel_rfl, rfl⟩⟩
instance : FN Try.prog 108 := ⟨⟨_, _, Try.func108, by kernel_rfl, rfl⟩⟩
instance : FN Try.prog 109 := ⟨⟨_, _, Try.func109, by kernel_rfl, rfl⟩⟩
instance : FN Try.prog 110 := ⟨⟨_, _, Try.func110, by kernel_rfl, rfl⟩⟩
instance : FN Try.prog 111 := ⟨⟨_, _, Try.func111, by kernel_rfl, rfl⟩⟩
instance : FN Try.prog 112 := ⟨⟨_, _, Try.func112, by kernel_rfl, rfl⟩⟩
instance : FN Try.prog 113 := ⟨⟨_, _, Try.func113, by kernel_rfl, rfl⟩⟩
instance : FN Try.prog 114 := ⟨⟨_, _, Try.func114, by kernel_rfl, rfl⟩⟩
instance : FN Try.prog 115 := ⟨⟨_, _, Try.func115, by kernel_rfl, rfl⟩⟩
instance : FN Try.prog 116 := ⟨⟨_, _, Try.func116, by kernel_rfl, rfl⟩⟩
instance : FN Try.prog 117 := ⟨⟨_, _, Try.func117, by kernel_rfl, rfl⟩⟩
instance : FN Try.prog 118 := ⟨⟨_, _, Try.func118, by kernel_rfl, rfl⟩⟩
instance : FN Try.prog 119 := ⟨⟨_, _, Try.func119, by kernel_rfl, rfl⟩⟩
instance : FN Try.prog 120 := ⟨⟨_, _, Try.func120, by kernel_rfl, rfl⟩⟩
instance : FN Try.prog 121 := ⟨⟨_, _, Try.func121, by kernel_rfl, rfl⟩⟩
instance : FN Try.prog 122 := ⟨⟨_, _, Try.func122, by kernel_rfl, rfl⟩⟩
instance : FN Try.prog 123 := ⟨⟨_, _, Try.func123, by kernel_rfl, rfl⟩⟩
instance : FN Try.prog 124 := ⟨⟨_, _, Try.func124, by kernel_rfl, rfl⟩⟩
instance : FN Try.prog 125 := ⟨⟨_, _, Try.func125, by kernel_rfl, rfl⟩⟩
instance : FN Try.prog 126 := ⟨⟨_, _, Try.func126, by kernel_rfl, rfl⟩⟩
instance : FN Try.prog 127 := ⟨⟨_, _, Try.func127, by kernel_rfl, rfl⟩⟩
instance : FN Try.prog 128 := ⟨⟨_, _, Try.func128, by kernel_rfl, rfl⟩⟩
instance : FN Try.prog 129 := ⟨⟨_, _, Try.func129, by kernel_rfl, rfl⟩⟩
instance : FN Try.prog 130 := ⟨⟨_, _, Try.func130, by kernel_rfl, rfl⟩⟩
instance : FN Try.prog 131 := ⟨⟨_, _, Try.func131, by kernel_rfl, rfl⟩⟩
instance : FN Try.prog 132 := ⟨⟨_, _, Try.func132, by kernel_rfl, rfl⟩⟩
instance : FN Try.prog 133 := ⟨⟨_, _, Try.func133, by kernel_rfl, rfl⟩⟩
instance : FN Try.prog 134 := ⟨⟨_, _, Try.func134, by kernel_rfl, rfl⟩⟩
instance : FN Try.prog 135 := ⟨⟨_, _, Try.func135, by kernel_rfl, rfl⟩⟩
instance : FN Try.prog 136 := ⟨⟨_, _, Try.func136, by kernel_rfl, rfl⟩⟩
instance : FN Try.prog 137 := ⟨⟨_, _, Try.func137, by kernel_rfl, rfl⟩⟩
instance : FN Try.prog 138 := ⟨⟨_, _, Try.func138, by kernel_rfl, rfl⟩⟩
instance : FN Try.prog 139 := ⟨⟨_, _, Try.func139, by kernel_rfl, rfl⟩⟩
instance : FN Try.prog 140 := ⟨⟨_, _, Try.func140, by kernel_rfl, rfl⟩⟩
instance : FN Try.prog 141 := ⟨⟨_, _, Try.func141, by kernel_rfl, rfl⟩⟩
instance : FN Try.prog 142 := ⟨⟨_, _, Try.func142, by kernel_rfl, rfl⟩⟩
instance : FN Try.prog 143 := ⟨⟨_, _, Try.func143, by kernel_rfl, rfl⟩⟩
instance : FN Try.prog 144 := ⟨⟨_, _, Try.func144, by kernel_rfl, rfl⟩⟩
instance : FN Try.prog 145 := ⟨⟨_, _, Try.func145, by kernel_rfl, rfl⟩⟩
instance : FN Try.prog 146 := ⟨⟨_, _, Try.func146, by kernel_rfl, rfl⟩⟩
instance : FN Try.prog 147 := ⟨⟨_, _, Try.func147, by kernel_rfl, rfl⟩⟩
instance : FN Try.prog 148 := ⟨⟨_, _, Try.func148, by kernel_rfl, rfl⟩⟩
instance : FN Try.prog 149 := ⟨⟨_, _, Try.func149, by kernel_rfl, rfl⟩⟩
instance : FN Try.prog 150 := ⟨⟨_, _, Try.func150, by kernel_rfl, rfl⟩⟩
instance : FN Try.prog 151 := ⟨⟨_, _, Try.func151, by kernel_rfl, rfl⟩⟩
instance : FN Try.prog 152 := ⟨⟨_, _, Try.func152, by kernel_rfl, rfl⟩⟩
instance : FN Try.prog 153 := ⟨⟨_, _, Try.func153, by kernel_rfl, rfl⟩⟩
instance : FN Try.prog 154 := ⟨⟨_, _, Try.func154, by kernel_rfl, rfl⟩⟩
instance : FN Try.prog 155 := ⟨⟨_, _, Try.func155, by kernel_rfl, rfl⟩⟩
instance : FN Try.prog 156 := ⟨⟨_, _, Try.func156, by kernel_rfl, rfl⟩⟩
instance : FN Try.prog 157 := ⟨⟨_, _, Try.func157, by kernel_rfl, rfl⟩⟩
instance : FN Try.prog 158 := ⟨⟨_, _, Try.func158, by kernel_rfl, rfl⟩⟩
instance : FN Try.prog 159 := ⟨⟨_, _, Try.func159, by kernel_rfl, rfl⟩⟩
instance : FN Try.prog 160 := ⟨⟨_, _, Try.func160, by kernel_rfl, rfl⟩⟩
instance : FN Try.prog 161 := ⟨⟨_, _, Try.func161, by kernel_rfl, rfl⟩⟩
instance : FN Try.prog 162 := ⟨⟨_, _, Try.func162, by kernel_rfl, rfl⟩⟩
instance : FN Try.prog 163 := ⟨⟨_, _, Try.func163, by kernel_rfl, rfl⟩⟩
instance : FN Try.prog 164 := ⟨⟨_, _, Try.func164, by kernel_rfl, rfl⟩⟩
instance : FN Try.prog 165 := ⟨⟨_, _, Try.func165, by kernel_rfl, rfl⟩⟩
instance : FN Try.prog 166 := ⟨⟨_, _, Try.func166, by kernel_rfl, rfl⟩⟩
instance : FN Try.prog 167 := ⟨⟨_, _, Try.func167, by kernel_rfl, rfl⟩⟩
instance : FN Try.prog 168 := ⟨⟨_, _, Try.func168, by kernel_rfl, rfl⟩⟩
instance : FN Try.prog 169 := ⟨⟨_, _, Try.func169, by kernel_rfl, rfl⟩⟩
instance : FN Try.prog 170 := ⟨⟨_, _, Try.func170, by kernel_rfl, rfl⟩⟩
instance : FN Try.prog 171 := ⟨⟨_, _, Try.func171, by kernel_rfl, rfl⟩⟩
instance : FN Try.prog 172 := ⟨⟨_, _, Try.func172, by kernel_rfl, rfl⟩⟩
instance : FN Try.prog 173 := ⟨⟨_, _, Try.func173, by kernel_rfl, rfl⟩⟩
instance : FN Try.prog 174 := ⟨⟨_, _, Try.func174, by kernel_rfl, rfl⟩⟩
instance : FN Try.prog 175 := ⟨⟨_, _, Try.func175, by kernel_rfl, rfl⟩⟩
instance : FN Try.prog 176 := ⟨⟨_, _, Try.func176, by kernel_rfl, rfl⟩⟩
instance : FN Try.prog 177 := ⟨⟨_, _, Try.func177, by kernel_rfl, rfl⟩⟩
instance : FN Try.prog 178 := ⟨⟨_, _, Try.func178, by kernel_rfl, rfl⟩⟩
instance : FN Try.prog 179 := ⟨⟨_, _, Try.func179, by kernel_rfl, rfl⟩⟩
instance : FN Try.prog 180 := ⟨⟨_, _, Try.func180, by kernel_rfl, rfl⟩⟩
instance : FN Try.prog 181 := ⟨⟨_, _, Try.func181, by kernel_rfl, rfl⟩⟩
instance : FN Try.prog 182 := ⟨⟨_, _, Try.func182, by kernel_rfl, rfl⟩⟩
instance : FN Try.prog 183 := ⟨⟨_, _, Try.func183, by kernel_rfl, rfl⟩⟩
instance : FN Try.prog 184 := ⟨⟨_, _, Try.func184, by kernel_rfl, rfl⟩⟩
instance : FN Try.prog 185 := ⟨⟨_, _, Try.func185, by kernel_rfl, rfl⟩⟩
instance : FN Try.prog 186 := ⟨⟨_, _, Try.func186, by kernel_rfl, rfl⟩⟩
instance : FN Try.prog 187 := ⟨⟨_, _, Try.func187, by kernel_rfl, rfl⟩⟩
instance : FN Try.prog 188 := ⟨⟨_, _, Try.func188, by kernel_rfl, rfl⟩⟩
instance : FN Try.prog 189 := ⟨⟨_, _, Try.func189, by kernel_rfl, rfl⟩⟩
instance : FN Try.prog 190 := ⟨⟨_, _, Try.func190, by kernel_rfl, rfl⟩⟩
instance : FN Try.prog 191 := ⟨⟨_, _, Try.func191, by kernel_rfl, rfl⟩⟩
instance : FN Try.prog 192 := ⟨⟨_, _, Try.func192, by kernel_rfl, rfl⟩⟩
instance : FN Try.prog 193 := ⟨⟨_, _, Try.func193, by kernel_rfl, rfl⟩⟩
instance : FN Try.prog 194 := ⟨⟨_, _, Try.func194, by kernel_rfl, rfl⟩⟩
instance : FN Try.prog 195 := ⟨⟨_, _, Try.func195, by kernel_rfl, rfl⟩⟩
instance : FN Try.prog 196 := ⟨⟨_, _, Try.func196, by kernel_rfl, rfl⟩⟩
instance : FN Try.prog 197 := ⟨⟨_, _, Try.func197, by kernel_rfl, rfl⟩⟩
instance : FN Try.prog 198 := ⟨⟨_, _, Try.func198, by kernel_rfl, rfl⟩⟩
instance : FN Try.prog 199 := ⟨⟨_, _, Try.func199, by kernel_rfl, rfl⟩⟩
instance : FN Try.prog 200 := ⟨⟨_, _, Try.func200, by kernel_rfl, rfl⟩⟩
instance : FN Try.prog 201 := ⟨⟨_, _, Try.func201, by kernel_rfl, rfl⟩⟩
instance : FN Try.prog 202 := ⟨⟨_, _, Try.func202, by kernel_rfl, rfl⟩⟩
instance : FN Try.prog 203 := ⟨⟨_, _, Try.func203, by kernel_rfl, rfl⟩⟩
instance : FN Try.prog 204 := ⟨⟨_, _, Try.func204, by kernel_rfl, rfl⟩⟩
instance : FN Try.prog 205 := ⟨⟨_, _, Try.func205, by kernel_rfl, rfl⟩⟩
instance : FN Try.prog 206 := ⟨⟨_, _, Try.func206, by kernel_rfl, rfl⟩⟩
instance : FN Try.prog 207 := ⟨⟨_, _, Try.func207, by kernel_rfl, rfl⟩⟩
instance : FN Try.prog 208 := ⟨⟨_, _, Try.func208, by kernel_rfl, rfl⟩⟩
instance : FN Try.prog 209 := ⟨⟨_, _, Try.func209, by kernel_rfl, rfl⟩⟩
instance : FN Try.prog 210 := ⟨⟨_, _, Try.func210, by kernel_rfl, rfl⟩⟩
instance : FN Try.prog 211 := ⟨⟨_, _, Try.func211, by kernel_rfl, rfl⟩⟩
instance : FN Try.prog 212 := ⟨⟨_, _, Try.func212, by kernel_rfl, rfl⟩⟩
instance : FN Try.prog 213 := ⟨⟨_, _, Try.func213, by kernel_rfl, rfl⟩⟩
instance : FN Try.prog 214 := ⟨⟨_, _, Try.func214, by kernel_rfl, rfl⟩⟩
instance : FN Try.prog 215 := ⟨⟨_, _, Try.func215, by kernel_rfl, rfl⟩⟩
instance : FN Try.prog 216 := ⟨⟨_, _, Try.func216, by kernel_rfl, rfl⟩⟩
instance : FN Try.prog 217 := ⟨⟨_, _, Try.func217, by kernel_rfl, rfl⟩⟩
instance : FN Try.prog 218 := ⟨⟨_, _, Try.func218, by kernel_rfl, rfl⟩⟩
instance : FN Try.prog 219 := ⟨⟨_, _, Try.func219, by kernel_rfl, rfl⟩⟩
instance : FN Try.prog 220 := ⟨⟨_, _, Try.func220, by kernel_rfl, rfl⟩⟩
instance : FN Try.prog 221 := ⟨⟨_, _, Try.func221, by kernel_rfl, rfl⟩⟩
instance : FN Try.prog 222 := ⟨⟨_, _, Try.func222, by kernel_rfl, rfl⟩⟩
instance : FN Try.prog 223 := ⟨⟨_, _, Try.func223, by kernel_rfl, rfl⟩⟩
instance : FN Try.prog 224 := ⟨⟨_, _, Try.func224, by kernel_rfl, rfl⟩⟩
instance : FN Try.prog 225 := ⟨⟨_, _, Try.func225, by kernel_rfl, rfl⟩⟩
instance : FN Try.prog 226 := ⟨⟨_, _, Try.func226, by kernel_rfl, rfl⟩⟩
instance : FN Try.prog 227 := ⟨⟨_, _, Try.func227, by kernel_rfl, rfl⟩⟩
instance : FN Try.prog 228 := ⟨⟨_, _, Try.func228, by kernel_rfl, rfl⟩⟩
instance : FN Try.prog 229 := ⟨⟨_, _, Try.func229, by kernel_rfl, rfl⟩⟩
instance : FN Try.prog 230 := ⟨⟨_, _, Try.func230, by kernel_rfl, rfl⟩⟩
instance : FN Try.prog 231 := ⟨⟨_, _, Try.func231, by kernel_rfl, rfl⟩⟩
instance : FN Try.prog 232 := ⟨⟨_, _, Try.func232, by kernel_rfl, rfl⟩⟩
instance : FN Try.prog 233 := ⟨⟨_, _, Try.func233, by kernel_rfl, rfl⟩⟩
instance : FN Try.prog 234 := ⟨⟨_, _, Try.func234, by kernel_rfl, rfl⟩⟩
instance : FN Try.prog 235 := ⟨⟨_, _, Try.func235, by kernel_rfl, rfl⟩⟩
instance : FN Try.prog 236 := ⟨⟨_, _, Try.func236, by kernel_rfl, rfl⟩⟩
instance : FN Try.prog 237 := ⟨⟨_, _, Try.func237, by kernel_rfl, rfl⟩⟩
instance : FN Try.prog 238 := ⟨⟨_, _, Try.func238, by kernel_rfl, rfl⟩⟩
instance : FN Try.prog 239 := ⟨⟨_, _, Try.func239, by kernel_rfl, rfl⟩⟩
instance : FN Try.prog 240 := ⟨⟨_, _, Try.func240, by kernel_rfl, rfl⟩⟩
instance : FN Try.prog 241 := ⟨⟨_, _, Try.func241, by kernel_rfl, rfl⟩⟩
instance : FN Try.prog 242 := ⟨⟨_, _, Try.func242, by kernel_rfl, rfl⟩⟩
instance : FN Try.prog 243 := ⟨⟨_, _, Try.func243, by kernel_rfl, rfl⟩⟩
instance : FN Try.prog 244 := ⟨⟨_, _, Try.func244, by kernel_rfl, rfl⟩⟩
instance : FN Try.prog 245 := ⟨⟨_, _, Try.func245, by kernel_rfl, rfl⟩⟩
instance : FN Try.prog 246 := ⟨⟨_, _, Try.func246, by kernel_rfl, rfl⟩⟩
instance : FN Try.prog 247 := ⟨⟨_, _, Try.func247, by kernel_rfl, rfl⟩⟩
instance : FN Try.prog 249 := ⟨⟨_, _, Try.func249, by kernel_rfl, rfl⟩⟩
instance : FN Try.prog 250 := ⟨⟨_, _, Try.func250, by kernel_rfl, rfl⟩⟩
instance : FN Try.prog 251 := ⟨⟨_, _, Try.func251, by kernel_rfl, rfl⟩⟩
instance : FN Try.prog 252 := ⟨⟨_, _, Try.func252, by kernel_rfl, rfl⟩⟩
instance : FN Try.prog 253 := ⟨⟨_, _, Try.func253, by kernel_rfl, rfl⟩⟩
instance : FN Try.prog 254 := ⟨⟨_, _, Try.func254, by kernel_rfl, rfl⟩⟩
instance : FN Try.prog 255 := ⟨⟨_, _, Try.func255, by kernel_rfl, rfl⟩⟩
instance : FN Try.prog 256 := ⟨⟨_, _, Try.func256, by kernel_rfl, rfl⟩⟩
instance : FN Try.prog 257 := ⟨⟨_, _, Try.func257, by kernel_rfl, rfl⟩⟩
instance : FN Try.prog 258 := ⟨⟨_, _, Try.func258, by kernel_rfl, rfl⟩⟩
instance : FN Try.prog 260 := ⟨⟨_, _, Try.func260, by kernel_rfl, rfl⟩⟩
instance : FN Try.prog 261 := ⟨⟨_, _, Try.func261, by kernel_rfl, rfl⟩⟩
instance : FN Try.prog 262 := ⟨⟨_, _, Try.func262, by kernel_rfl, rfl⟩⟩
instance : FN Try.prog 263 := ⟨⟨_, _, Try.func263, by kernel_rfl, rfl⟩⟩
instance : FN Try.prog 264 := ⟨⟨_, _, Try.func264, by kernel_rfl, rfl⟩⟩
instance : FN Try.prog 265 := ⟨⟨_, _, Try.func265, by kernel_rfl, rfl⟩⟩
instance : FN Try.prog 266 := ⟨⟨_, _, Try.func266, by kernel_rfl, rfl⟩⟩
instance : FN Try.prog 267 := ⟨⟨_, _, Try.func267, by kernel_rfl, rfl⟩⟩
instance : FN Try.prog 268 := ⟨⟨_, _, Try.func268, by kernel_rfl, rfl⟩⟩
instance : FN Try.prog 269 := ⟨⟨_, _, Try.func269, by kernel_rfl, rfl⟩⟩
instance : FN Try.prog 270 := ⟨⟨_, _, Try.func270, by kernel_rfl, rfl⟩⟩
instance : FN Try.prog 271 := ⟨⟨_, _, Try.func271, by kernel_rfl, rfl⟩⟩
instance : FN Try.prog 272 := ⟨⟨_, _, Try.func272, by kernel_rfl, rfl⟩⟩
instance : FN Try.prog 273 := ⟨⟨_, _, Try.func273, by kernel_rfl, rfl⟩⟩
instance : FN Try.prog 274 := ⟨⟨_, _, Try.func274, by kernel_rfl, rfl⟩⟩
instance : FN Try.prog 275 := ⟨⟨_, _, Try.func275, by kernel_rfl, rfl⟩⟩
instance : FN Try.prog 276 := ⟨⟨_, _, Try.func276, by kernel_rfl, rfl⟩⟩
instance : FN Try.prog 277 := ⟨⟨_, _, Try.func277, by kernel_rfl, rfl⟩⟩
instance : FN Try.prog 278 := ⟨⟨_, _, Try.func278, by kernel_rfl, rfl⟩⟩
instance : FN Try.prog 279 := ⟨⟨_, _, Try.func279, by kernel_rfl, rfl⟩⟩
instance : FN Try.prog 280 := ⟨⟨_, _, Try.func280, by kernel_rfl, rfl⟩⟩
instance : FN Try.prog 281 := ⟨⟨_, _, Try.func281, by kernel_rfl, rfl⟩⟩
instance : FN Try.prog 282 := ⟨⟨_, _, Try.func282, by kernel_rfl, rfl⟩⟩
instance : FN Try.prog 284 := ⟨⟨_, _, Try.func284, by kernel_rfl, rfl⟩⟩
instance : FN Try.prog 285 := ⟨⟨_, _, Try.func285, by kernel_rfl, rfl⟩⟩
instance : FN Try.prog 286 := ⟨⟨_, _, Try.func286, by kernel_rfl, rfl⟩⟩
instance : FN Try.prog 287 := ⟨⟨_, _, Try.func287, by kernel_rfl, rfl⟩⟩
instance : FN Try.prog 288 := ⟨⟨_, _, Try.func288, by kernel_rfl, rfl⟩⟩
instance : FN Try.prog 289 := ⟨⟨_, _, Try.func289, by kernel_rfl, rfl⟩⟩
instance : FN Try.prog 290 := ⟨⟨_, _, Try.func290, by kernel_rfl, rfl⟩⟩
instance : FN Try.prog 292 := ⟨⟨_, _, Try.func292, by kernel_rfl, rfl⟩⟩
instance : FN Try.prog 293 := ⟨⟨_, _, Try.func293, by kernel_rfl, rfl⟩⟩
end Go.Proofs.Ytfcnimglcialbaa
/- ReadVar of both programs. -/
namespace Go.Proofs.Ytfcnimglcialbaa
open Go.RowKit
set_option maxHeartbeats 4000000
set_option maxRecDepth 20000
set_option linter.unusedVariables false
set_option linter.unusedSimpArgs false
/-- A string's bytes. -/
abbrev bl (s : ByteArray) : List UInt8 := s.data.toList
theorem bl_len (s : ByteArray) : (bl s).length = s.size := Array.length_toList
theorem bl_ext {s t : ByteArray} (h : bl s = bl t) : s = t := by
  cases s; cases t; simp only [bl] at h; congr; exact Array.toList_inj.1 h
theorem bl_mk (l : List UInt8) : bl ⟨l.toArray⟩ = l := rfl
theorem bl_extract (s : ByteArray) (i k : Nat) : bl (s.extract i k) = ((bl s).take k).drop i := by
  simp [bl, ByteArray.data_extract, List.extract_eq_take_drop, List.drop_take]
theorem bl_app (s t : ByteArray) : bl (s ++ t) = bl s ++ bl t := by simp [bl]
def bt (s : ByteArray) (i : Nat) : Nat := ((bl s).getD i 0).toNat
theorem bt_lt (s : ByteArray) (i : Nat) : bt s i < 256 := UInt8.toNat_lt _
theorem bt_get {s : ByteArray} {i : Nat} (h : i < s.size) : s[i]! = (bl s).getD i 0 := by
  rw [getElem!_pos s i h]
  have h2 : i < (bl s).length := by rw [bl_len]; exact h
  rw [List.getD_eq_getElem?_getD, List.getElem?_eq_getElem h2]
  simp [bl]; rfl
theorem bl_cons {s : ByteArray} {i : Nat} (h : i < s.size) : (bl s).drop i = (bl s).getD i 0 :: (bl s).drop (i + 1) := by
  have h2 : i < (bl s).length := by rw [bl_len]; exact h
  rw [List.drop_eq_getElem_cons h2, List.getD_eq_getElem?_getD, List.getElem?_eq_getElem h2]; rfl
section
variable {P : Program} {E : Env} {H : List HObj} {G : List World} {o : Oper}
theorem ps_sidxE {x y : Operand} {t : TypeId} {s : ByteArray} {k : IntKind} {z : Int} (i : Nat) [ht : SS P t] (ho : o.op = .index t x y) (hx : opd E x = some (.string s)) (hy : opd E y = some (.int k z)) (hz : z = (i : Int)) (h : i < s.size) : PStep P E H G o (.int .u8 (bt s i : Int)) := by
  subst hz
  have := ps_sidx (P := P) (E := E) (H := H) (G := G) ho hx hy (by omega)
  rw [Int.toNat_natCast, bt_get h] at this
  exact this
theorem ps_and127 {x y : Operand} {t t' : TypeId} {n : Nat} (ho : o.op = .binOp .and t x y t') (hx : opd E x = some (.int .u8 (n : Int))) (hy : opd E y = some (.int .u8 127)) (hn : n < 256) : PStep P E H G o (.int .u8 ((n % 128 : Nat) : Int)) := by
  refine ps_int ho hx hy ?_
  have h : ∀ n : Nat, n < 256 → IntKind.u8.wrap ((BitVec.ofInt IntKind.u8.bits (n : Int) &&& BitVec.ofInt IntKind.u8.bits 127).toNat : Int) = ((n % 128 : Nat) : Int) := by decide +kernel
  simp only [intOp]
  rw [h n hn]
theorem pow7 (i : Nat) : (128 : Nat) ^ i = 2 ^ (7 * i) := by rw [Nat.pow_mul]
theorem ps_shl7 {x y : Operand} {t t' : TypeId} {n i : Nat} {z : Int} {k' : IntKind} (ho : o.op = .binOp .shl t x y t') (hx : opd E x = some (.int .i64 (n : Int))) (hy : opd E y = some (.int k' z)) (hz : z = ((7 * i : Nat) : Int)) (hi : i ≤ 6) (hn : n < 128) : PStep P E H G o (.int .i64 ((n * 128 ^ i : Nat) : Int)) := by
  subst hz
  have h0 := ps_shl (P := P) (E := E) (H := H) (G := G) ho hx hy (by simp only [IntKind.bits]; omega)
  have h1 : n * 128 ^ i ≤ 127 * 128 ^ i := Nat.mul_le_mul_right _ (by omega)
  have h2 := pow_le i (by omega)
  have e : (n : Int) * 2 ^ ((7 * i : Nat) : Int).toNat = ((n * 128 ^ i : Nat) : Int) := by
    rw [Int.toNat_natCast, pow7]; push_cast; rfl
  have h3 : n * 128 ^ i ≤ 127 * 562949953421312 := Nat.le_trans h1 (Nat.mul_le_mul_left _ h2)
  rw [e, IntWalk.i64_in _ (by omega)] at h0
  exact h0
theorem ps_orS {x y : Operand} {t t' : TypeId} {m n i : Nat} (ho : o.op = .binOp .or t x y t') (hx : opd E x = some (.int .i64 (m : Int))) (hy : opd E y = some (.int .i64 ((n * 128 ^ i : Nat) : Int))) (hm : m < 128 ^ i) (hi : i ≤ 6) (hn : n < 128) : PStep P E H G o (.int .i64 ((m + n * 128 ^ i : Nat) : Int)) := by
  refine ps_int ho hx hy ?_
  have h1 : n * 128 ^ i ≤ 127 * 128 ^ i := Nat.mul_le_mul_right _ (by omega)
  have h2 := pow_le i (by omega)
  have h3 : n * 128 ^ i ≤ 127 * 562949953421312 := Nat.le_trans h1 (Nat.mul_le_mul_left _ h2)
  have e : m ||| n * 128 ^ i = m + n * 128 ^ i := by
    have := Nat.two_pow_add_eq_or_of_lt (i := 7 * i) (b := m) (by rw [← pow7]; exact hm) n
    rw [← pow7, Nat.mul_comm] at this
    rw [Nat.or_comm, ← this, Nat.add_comm]
  simp only [intOp]
  congr 2
  show IntKind.i64.wrap ((BitVec.ofInt 64 (m : Int) ||| BitVec.ofInt 64 ((n * 128 ^ i : Nat) : Int)).toNat : Int) = _
  rw [BitVec.toNat_or, ofInt_u64 m (by omega), ofInt_u64 (n * 128 ^ i) (by omega), e, IntWalk.i64_in _ (by omega)]
end
theorem sumL_snoc : ∀ (l : List UInt8) (b : UInt8), sumL (l ++ [b]) = sumL l + b.toNat % 128 * 128 ^ l.length
  | [], b => by simp [sumL]
  | a :: l, b => by
    have ih := sumL_snoc l b
    simp only [List.cons_append, sumL, ih, List.length_cons, Nat.pow_succ, Nat.add_mul, ← Nat.mul_assoc]
    omega
theorem take_snoc {s : ByteArray} {i : Nat} (h : i < s.size) : (bl s).take (i + 1) = (bl s).take i ++ [(bl s).getD i 0] := by
  have h2 : i < (bl s).length := by rw [bl_len]; exact h
  rw [List.take_add_one, List.getElem?_eq_getElem h2, List.getD_eq_getElem?_getD, List.getElem?_eq_getElem h2]; rfl
/-- What is read: the number and how many bytes; both 0 where none is. -/
def rvN (l : List UInt8) : Nat × Nat := (rv l).getD (0, 0)
/-- The state of the reading behind i bytes that are all 128 or more. -/
structure RvI (s : ByteArray) (i : Nat) : Prop where
  le : i ≤ 7
  ls : i ≤ s.size
  eq : rv (bl s) = (rvT (decide (0 < i)) (7 - i) ((bl s).drop i)).map (fun p => (p.1 * 128 ^ i + sumL ((bl s).take i), p.2 + i))
theorem RvI.zero (s : ByteArray) : RvI s 0 := ⟨by omega, by omega, by
  simp only [rv, Nat.lt_irrefl, decide_false, Nat.sub_zero, List.drop_zero, List.take_zero, sumL]
  cases rvT false 7 (bl s) <;> simp⟩
theorem RvI.step {s : ByteArray} {i : Nat} (h : RvI s i) (h7 : i < 7) (hs : i < s.size) (hb : 128 ≤ bt s i) : RvI s (i + 1) := by
  refine ⟨by omega, by omega, ?_⟩
  rw [h.eq, bl_cons hs, show 7 - i = (7 - (i + 1)) + 1 by omega, rvT]
  have hb' : 128 ≤ ((bl s).getD i 0).toNat := hb
  rw [if_pos hb', take_snoc hs, sumL_snoc]
  have hl : ((bl s).take i).length = i := by rw [List.length_take, bl_len]; omega
  rw [hl, show decide (0 < i + 1) = true by simp]
  cases rvT true (7 - (i + 1)) ((bl s).drop (i + 1)) with
  | none => rfl
  | some p =>
    simp only [Option.map_some, Option.some.injEq, Prod.mk.injEq]
    refine ⟨?_, by omega⟩
    rw [Nat.pow_succ, Nat.add_mul, Nat.mul_assoc, Nat.mul_comm 128 (128 ^ i)]
    omega
theorem RvI.none {s : ByteArray} {i : Nat} (h : RvI s i) (hx : i = 7 ∨ i = s.size) : rvN (bl s) = (0, 0) := by
  unfold rvN
  rw [h.eq]
  have : rvT (decide (0 < i)) (7 - i) ((bl s).drop i) = Option.none := by
    rcases hx with rfl | rfl
    · rfl
    · rw [List.drop_of_length_le (by rw [bl_len]; omega)]
      cases 7 - s.size <;> rfl
  rw [this]; rfl
theorem RvI.bad {s : ByteArray} {i : Nat} (h : RvI s i) (h7 : i < 7) (hs : i < s.size) (hb : bt s i = 0) (h0 : 0 < i) : rvN (bl s) = (0, 0) := by
  unfold rvN
  have hb' : ((bl s).getD i 0).toNat = 0 := hb
  rw [h.eq, bl_cons hs, show 7 - i = (7 - (i + 1)) + 1 by omega, rvT, if_neg (by omega), if_pos ⟨by simp [h0], hb'⟩]; rfl
theorem RvI.good {s : ByteArray} {i : Nat} (h : RvI s i) (h7 : i < 7) (hs : i < s.size) (hb : bt s i < 128) (h0 : ¬ (bt s i = 0 ∧ 0 < i)) : rvN (bl s) = (sumL ((bl s).take i) + bt s i * 128 ^ i, i + 1) := by
  unfold rvN
  have hb' : ((bl s).getD i 0).toNat < 128 := hb
  have h0' : ¬ (((bl s).getD i 0).toNat = 0 ∧ 0 < i) := h0
  rw [h.eq, bl_cons hs, show 7 - i = (7 - (i + 1)) + 1 by omega, rvT, if_neg (by omega), if_neg (by simp only [decide_eq_true_eq]; omega)]
  simp only [Option.map_some, Option.getD_some, bt]
  congr 1 <;> omega
theorem sEq_t {a b : ByteArray} (h : sEq a b = true) : a = b := tl_inj (by simpa [sEq] using h)
theorem sEq_f {a b : ByteArray} (h : sEq a b = false) : a ≠ b := fun e => by subst e; simp [sEq] at h
attribute [local irreducible] Calls
theorem i_ReadVar_c (s : ByteArray) (hs : s.size ≤ 4194304) (w : World) :
    Calls Try.prog 229 #[.string s] w fun e w' => e = .returned (.tuple #[.int .i64 (rvN (bl s)).1, .int .i64 (rvN (bl s)).2]) ∧ Below w.heap.size w w' := by
  refine ok_enter 42 Try.func229 rfl rfl rfl ?_
  repeat' (first
    | refine ok_seq ?_
    | refine ok_then ?_
    | refine ok_then_ret ?_
    | refine ok_then_exit ?_
    | refine ok_block ?_
    | refine ok_in_normal ?_
    | refine ok_in_ret ?_
    | refine ok_in_exit ?_
    | refine ok_in_other rfl ?_
    | (refine ok_cond rfl (fun hc => ?_) (fun hc => ?_) <;> (have hd := hc; (try simp only [decide_eq_true_eq, decide_eq_false_iff_not, Bool.or_eq_true, Bool.or_eq_false_iff, Bool.and_eq_true, Bool.and_eq_false_iff, Bool.not_eq_true', Bool.not_eq_false', bne_iff_ne, beq_iff_eq, bne_eq_false_iff_eq, beq_eq_false_iff_ne, ne_eq, Bool.not_true, Bool.not_false, Bool.false_eq_true, Bool.true_eq_false, inB_true, inB_false] at hd)))
    | refine ok_ret ?_
    | refine ok_exit ?_
    | refine ok_skip ?_
    | (refine ok_region (i := 0) ?_; refine ok_p rfl rfl rfl (by exact ps_assign rfl rfl) ?_; refine ok_p rfl rfl rfl (by exact ps_assign rfl rfl) ?_; refine ok_nil ?_; refine ok_env [(0, _)] ⟨rfl, trivial⟩ ?_)
    | (refine ok_region (i := 1) ?_; refine ok_p rfl rfl rfl (by exact ps_assign rfl rfl) ?_; refine ok_nil ?_; refine ok_env [(0, _), (4, _)] ⟨rfl, rfl, trivial⟩ ?_)
    | (refine ok_region (i := 2) ?_; refine ok_p rfl rfl rfl (by exact ps_assign rfl rfl) ?_; refine ok_nil ?_; refine ok_env [(0, _), (4, _), (5, _)] ⟨rfl, rfl, rfl, trivial⟩ ?_)
    | (refine ok_region (i := 3) ?_; refine ok_p rfl rfl rfl (by exact ps_move rfl rfl) ?_; refine ok_p rfl rfl rfl (by exact ps_int rfl rfl rfl rfl) ?_; refine ok_p rfl rfl rfl (by exact ps_move rfl rfl) ?_; refine ok_pg rfl rfl rfl rfl rfl (gT _) (fun hp => by (have hpd := hp; (try simp only [decide_eq_true_eq, decide_eq_false_iff_not, Bool.or_eq_true, Bool.or_eq_false_iff, Bool.and_eq_true, Bool.and_eq_false_iff, Bool.not_eq_true', Bool.not_eq_false', bne_iff_ne, beq_iff_eq, bne_eq_false_iff_eq, beq_eq_false_iff_ne, ne_eq, Bool.not_true, Bool.not_false, Bool.false_eq_true, Bool.true_eq_false, inB_true, inB_false] at hpd); exact ps_move rfl (by first | (refine og rfl ?_; assumption) | exact rfl))) ?_; refine ok_pg rfl rfl rfl rfl rfl (gT _) (fun hp => by (have hpd := hp; (try simp only [decide_eq_true_eq, decide_eq_false_iff_not, Bool.or_eq_true, Bool.or_eq_false_iff, Bool.and_eq_true, Bool.and_eq_false_iff, Bool.not_eq_true', Bool.not_eq_false', bne_iff_ne, beq_iff_eq, bne_eq_false_iff_eq, beq_eq_false_iff_ne, ne_eq, Bool.not_true, Bool.not_false, Bool.false_eq_true, Bool.true_eq_false, inB_true, inB_false] at hpd); exact ps_move rfl (by first | (refine og rfl ?_; assumption) | exact rfl))) ?_; refine ok_pg rfl rfl rfl rfl rfl (gT _) (fun hp => by (have hpd := hp; (try simp only [decide_eq_true_eq, decide_eq_false_iff_not, Bool.or_eq_true, Bool.or_eq_false_iff, Bool.and_eq_true, Bool.and_eq_false_iff, Bool.not_eq_true', Bool.not_eq_false', bne_iff_ne, beq_iff_eq, bne_eq_false_iff_eq, beq_eq_false_iff_ne, ne_eq, Bool.not_true, Bool.not_false, Bool.false_eq_true, Bool.true_eq_false, inB_true, inB_false] at hpd); exact ps_slen rfl (by first | (refine og rfl ?_; assumption) | exact rfl))) ?_; refine ok_pg rfl rfl rfl rfl rfl (gT _) (fun hp => by (have hpd := hp; (try simp only [decide_eq_true_eq, decide_eq_false_iff_not, Bool.or_eq_true, Bool.or_eq_false_iff, Bool.and_eq_true, Bool.and_eq_false_iff, Bool.not_eq_true', Bool.not_eq_false', bne_iff_ne, beq_iff_eq, bne_eq_false_iff_eq, beq_eq_false_iff_ne, ne_eq, Bool.not_true, Bool.not_false, Bool.false_eq_true, Bool.true_eq_false, inB_true, inB_false] at hpd); exact ps_int rfl (by first | (refine og rfl ?_; assumption) | exact rfl) (by first | (refine og rfl ?_; assumption) | exact rfl) rfl)) ?_; refine ok_p rfl rfl rfl (by first | exact ps_and rfl rfl rfl | exact ps_and_in (by assumption) rfl rfl rfl | exact ps_pick_t rfl rfl (by simp_all; done) rfl | exact ps_pick_f rfl rfl (by simp_all; done) rfl) ?_; refine ok_nil ?_; refine ok_env [(0, _), (4, _), (5, _), (13, _)] ⟨rfl, rfl, rfl, rfl, trivial⟩ ?_)
    | (refine ok_region (i := 4) ?_; refine ok_p rfl rfl rfl (by exact ps_move rfl rfl) ?_; refine ok_p rfl rfl rfl (by exact ps_add rfl rfl rfl (by omega)) ?_; refine ok_p rfl rfl rfl (by exact ps_assign rfl rfl) ?_; refine ok_nil ?_; refine ok_env [(0, _), (4, _), (5, _)] ⟨rfl, rfl, rfl, trivial⟩ ?_)
    | (refine ok_region (i := 5) ?_; refine ok_p rfl rfl rfl (by exact ps_move rfl rfl) ?_; refine ok_p rfl rfl rfl (by exact ps_move rfl rfl) ?_; refine ok_p rfl rfl rfl (by exact ps_move rfl rfl) ?_; refine ok_p rfl rfl rfl (by exact ps_sidx rfl rfl rfl (by omega)) ?_; refine ok_p rfl rfl rfl (by exact ps_int rfl rfl rfl rfl) ?_; refine ok_p rfl rfl rfl (by exact ps_conv_id rfl rfl (IntWalk.i64_in _ (by omega))) ?_; refine ok_p rfl rfl rfl (by exact ps_move rfl rfl) ?_; refine ok_p rfl rfl rfl (by exact ps_mul rfl rfl rfl (by omega)) ?_; refine ok_p rfl rfl rfl (by exact ps_conv rfl rfl) ?_; refine ok_p rfl rfl rfl (by first | exact ps_shl rfl rfl rfl (by decide) | exact ps_shl rfl rfl rfl (by omega)) ?_; refine ok_p rfl rfl rfl (by exact ps_int rfl rfl rfl rfl) ?_; refine ok_p rfl rfl rfl (by exact ps_assign rfl rfl) ?_; refine ok_nil ?_; refine ok_env [(0, _), (4, _), (5, _)] ⟨rfl, rfl, rfl, trivial⟩ ?_)
    | (refine ok_region (i := 6) ?_; refine ok_p rfl rfl rfl (by exact ps_move rfl rfl) ?_; refine ok_p rfl rfl rfl (by exact ps_move rfl rfl) ?_; refine ok_p rfl rfl rfl (by exact ps_sidx rfl rfl rfl (by omega)) ?_; refine ok_p rfl rfl rfl (by exact ps_int rfl rfl rfl rfl) ?_; refine ok_nil ?_; refine ok_env [(0, _), (4, _), (5, _), (30, _)] ⟨rfl, rfl, rfl, rfl, trivial⟩ ?_)
    | (refine ok_region (i := 7) ?_; refine ok_p rfl rfl rfl (by exact ps_move rfl rfl) ?_; refine ok_p rfl rfl rfl (by exact ps_move rfl rfl) ?_; refine ok_p rfl rfl rfl (by exact ps_sidx rfl rfl rfl (by omega)) ?_; refine ok_p rfl rfl rfl (by exact ps_int rfl rfl rfl rfl) ?_; refine ok_p rfl rfl rfl (by exact ps_move rfl rfl) ?_; refine ok_pg rfl rfl rfl rfl rfl (gT _) (fun hp => by (have hpd := hp; (try simp only [decide_eq_true_eq, decide_eq_false_iff_not, Bool.or_eq_true, Bool.or_eq_false_iff, Bool.and_eq_true, Bool.and_eq_false_iff, Bool.not_eq_true', Bool.not_eq_false', bne_iff_ne, beq_iff_eq, bne_eq_false_iff_eq, beq_eq_false_iff_ne, ne_eq, Bool.not_true, Bool.not_false, Bool.false_eq_true, Bool.true_eq_false, inB_true, inB_false] at hpd); exact ps_move rfl (by first | (refine og rfl ?_; assumption) | exact rfl))) ?_; refine ok_pg rfl rfl rfl rfl rfl (gT _) (fun hp => by (have hpd := hp; (try simp only [decide_eq_true_eq, decide_eq_false_iff_not, Bool.or_eq_true, Bool.or_eq_false_iff, Bool.and_eq_true, Bool.and_eq_false_iff, Bool.not_eq_true', Bool.not_eq_false', bne_iff_ne, beq_iff_eq, bne_eq_false_iff_eq, beq_eq_false_iff_ne, ne_eq, Bool.not_true, Bool.not_false, Bool.false_eq_true, Bool.true_eq_false, inB_true, inB_false] at hpd); exact ps_int rfl (by first | (refine og rfl ?_; assumption) | exact rfl) (by first | (refine og rfl ?_; assumption) | exact rfl) rfl)) ?_; refine ok_p rfl rfl rfl (by first | exact ps_and rfl rfl rfl | exact ps_and_in (by assumption) rfl rfl rfl | exact ps_pick_t rfl rfl (by simp_all; done) rfl | exact ps_pick_f rfl rfl (by simp_all; done) rfl) ?_; refine ok_nil ?_; refine ok_env [(4, _), (5, _), (38, _)] ⟨rfl, rfl, rfl, trivial⟩ ?_)
    | (refine ok_region (i := 8) ?_; refine ok_p rfl rfl rfl (by exact ps_assign rfl rfl) ?_; refine ok_p rfl rfl rfl (by exact ps_assign rfl rfl) ?_; refine ok_nil ?_; refine ok_env [(2, _), (3, _)] ⟨rfl, rfl, trivial⟩ ?_)
    | (refine ok_region (i := 9) ?_; refine ok_p rfl rfl rfl (by exact ps_move rfl rfl) ?_; refine ok_p rfl rfl rfl (by exact ps_move rfl rfl) ?_; refine ok_p rfl rfl rfl (by exact ps_add rfl rfl rfl (by omega)) ?_; refine ok_p rfl rfl rfl (by exact ps_assign rfl rfl) ?_; refine ok_p rfl rfl rfl (by exact ps_assign rfl rfl) ?_; refine ok_nil ?_; refine ok_env [(2, _), (3, _)] ⟨rfl, rfl, trivial⟩ ?_)
    | (refine ok_region (i := 10) ?_; refine ok_p rfl rfl rfl (by exact ps_assign rfl rfl) ?_; refine ok_p rfl rfl rfl (by exact ps_assign rfl rfl) ?_; refine ok_nil ?_; refine ok_env [(2, _), (3, _)] ⟨rfl, rfl, trivial⟩ ?_))
  refine ok_loop (ι := { i : Nat // RvI s i }) (fun i => 7 - i.1) (fun i => ([(0, .string s), (4, .int .i64 (sumL ((bl s).take i.1))), (5, .int .i64 i.1)], _, _)) ⟨0, RvI.zero s⟩ (fun a w he hw => ⟨⟨0, RvI.zero s⟩, he.sub ⟨rfl, rfl, rfl, trivial⟩, hw⟩) ?_
  rintro ⟨i, hi⟩
  simp only
  have l1 := hi.le
  have l2 := hi.ls
  have l3 := bt_lt s i
  have l4 : sumL ((bl s).take i) < 128 ^ i := by
    have := sumL_lt ((bl s).take i)
    rwa [show ((bl s).take i).length = i by rw [List.length_take, bl_len]; omega] at this
  repeat' (first
    | refine ok_seq ?_
    | refine ok_then ?_
    | refine ok_then_ret ?_
    | refine ok_then_exit ?_
    | refine ok_block ?_
    | refine ok_in_normal ?_
    | refine ok_in_ret ?_
    | refine ok_in_exit ?_
    | refine ok_in_other rfl ?_
    | (refine ok_cond rfl (fun hc => ?_) (fun hc => ?_) <;> (have hd := hc; (try simp only [decide_eq_true_eq, decide_eq_false_iff_not, Bool.or_eq_true, Bool.or_eq_false_iff, Bool.and_eq_true, Bool.and_eq_false_iff, Bool.not_eq_true', Bool.not_eq_false', bne_iff_ne, beq_iff_eq, bne_eq_false_iff_eq, beq_eq_false_iff_ne, ne_eq, Bool.not_true, Bool.not_false, Bool.false_eq_true, Bool.true_eq_false, inB_true, inB_false] at hd)))
    | refine ok_ret ?_
    | refine ok_exit ?_
    | refine ok_skip ?_
    | (refine ok_region (i := 0) ?_; refine ok_p rfl rfl rfl (by exact ps_assign rfl rfl) ?_; refine ok_p rfl rfl rfl (by exact ps_assign rfl rfl) ?_; refine ok_nil ?_; refine ok_env [(0, _)] ⟨rfl, trivial⟩ ?_)
    | (refine ok_region (i := 1) ?_; refine ok_p rfl rfl rfl (by exact ps_assign rfl rfl) ?_; refine ok_nil ?_; refine ok_env [(0, _), (4, _)] ⟨rfl, rfl, trivial⟩ ?_)
    | (refine ok_region (i := 2) ?_; refine ok_p rfl rfl rfl (by exact ps_assign rfl rfl) ?_; refine ok_nil ?_; refine ok_env [(0, _), (4, _), (5, _)] ⟨rfl, rfl, rfl, trivial⟩ ?_)
    | (refine ok_region (i := 3) ?_; refine ok_p rfl rfl rfl (by exact ps_move rfl rfl) ?_; refine ok_p rfl rfl rfl (by exact ps_int rfl rfl rfl rfl) ?_; refine ok_p rfl rfl rfl (by exact ps_move rfl rfl) ?_; refine ok_pg rfl rfl rfl rfl rfl (gT _) (fun hp => by (have hpd := hp; (try simp only [decide_eq_true_eq, decide_eq_false_iff_not, Bool.or_eq_true, Bool.or_eq_false_iff, Bool.and_eq_true, Bool.and_eq_false_iff, Bool.not_eq_true', Bool.not_eq_false', bne_iff_ne, beq_iff_eq, bne_eq_false_iff_eq, beq_eq_false_iff_ne, ne_eq, Bool.not_true, Bool.not_false, Bool.false_eq_true, Bool.true_eq_false, inB_true, inB_false] at hpd); exact ps_move rfl (by first | (refine og rfl ?_; assumption) | exact rfl))) ?_; refine ok_pg rfl rfl rfl rfl rfl (gT _) (fun hp => by (have hpd := hp; (try simp only [decide_eq_true_eq, decide_eq_false_iff_not, Bool.or_eq_true, Bool.or_eq_false_iff, Bool.and_eq_true, Bool.and_eq_false_iff, Bool.not_eq_true', Bool.not_eq_false', bne_iff_ne, beq_iff_eq, bne_eq_false_iff_eq, beq_eq_false_iff_ne, ne_eq, Bool.not_true, Bool.not_false, Bool.false_eq_true, Bool.true_eq_false, inB_true, inB_false] at hpd); exact ps_move rfl (by first | (refine og rfl ?_; assumption) | exact rfl))) ?_; refine ok_pg rfl rfl rfl rfl rfl (gT _) (fun hp => by (have hpd := hp; (try simp only [decide_eq_true_eq, decide_eq_false_iff_not, Bool.or_eq_true, Bool.or_eq_false_iff, Bool.and_eq_true, Bool.and_eq_false_iff, Bool.not_eq_true', Bool.not_eq_false', bne_iff_ne, beq_iff_eq, bne_eq_false_iff_eq, beq_eq_false_iff_ne, ne_eq, Bool.not_true, Bool.not_false, Bool.false_eq_true, Bool.true_eq_false, inB_true, inB_false] at hpd); exact ps_slen rfl (by first | (refine og rfl ?_; assumption) | exact rfl))) ?_; refine ok_pg rfl rfl rfl rfl rfl (gT _) (fun hp => by (have hpd := hp; (try simp only [decide_eq_true_eq, decide_eq_false_iff_not, Bool.or_eq_true, Bool.or_eq_false_iff, Bool.and_eq_true, Bool.and_eq_false_iff, Bool.not_eq_true', Bool.not_eq_false', bne_iff_ne, beq_iff_eq, bne_eq_false_iff_eq, beq_eq_false_iff_ne, ne_eq, Bool.not_true, Bool.not_false, Bool.false_eq_true, Bool.true_eq_false, inB_true, inB_false] at hpd); exact ps_int rfl (by first | (refine og rfl ?_; assumption) | exact rfl) (by first | (refine og rfl ?_; assumption) | exact rfl) rfl)) ?_; refine ok_p rfl rfl rfl (by first | exact ps_and rfl rfl rfl | exact ps_and_in (by assumption) rfl rfl rfl | exact ps_pick_t rfl rfl (by simp_all; done) rfl | exact ps_pick_f rfl rfl (by simp_all; done) rfl) ?_; refine ok_nil ?_; refine ok_env [(0, _), (4, _), (5, _), (13, _)] ⟨rfl, rfl, rfl, rfl, trivial⟩ ?_)
    | (refine ok_region (i := 4) ?_; refine ok_p rfl rfl rfl (by exact ps_move rfl rfl) ?_; refine ok_p rfl rfl rfl (by exact ps_add rfl rfl rfl (by omega)) ?_; refine ok_p rfl rfl rfl (by exact ps_assign rfl rfl) ?_; refine ok_nil ?_; refine ok_env [(0, _), (4, _), (5, _)] ⟨rfl, rfl, rfl, trivial⟩ ?_)
    | (refine ok_region (i := 5) ?_; refine ok_p rfl rfl rfl (by exact ps_move rfl rfl) ?_; refine ok_p rfl rfl rfl (by exact ps_move rfl rfl) ?_; refine ok_p rfl rfl rfl (by exact ps_move rfl rfl) ?_; refine ok_p rfl rfl rfl (by first | exact ps_sidxE i rfl rfl rfl rfl (by omega) | exact ps_sidx rfl rfl rfl (by omega)) ?_; refine ok_p rfl rfl rfl (by first | exact ps_and127 rfl rfl rfl l3 | exact ps_int rfl rfl rfl rfl) ?_; refine ok_p rfl rfl rfl (by exact ps_conv_id rfl rfl (IntWalk.i64_in _ (by omega))) ?_; refine ok_p rfl rfl rfl (by exact ps_move rfl rfl) ?_; refine ok_p rfl rfl rfl (by first | exact ps_mul rfl rfl rfl (by omega) | exact ps_mul rfl rfl rfl (by omega)) ?_; refine ok_p rfl rfl rfl (by first | exact ps_conv_id rfl rfl (IntWalk.u64_in _ (by omega)) | exact ps_conv rfl rfl) ?_; refine ok_p rfl rfl rfl (by first | exact ps_shl7 (i := i) rfl rfl rfl (by push_cast; rfl) (by omega) (by omega) | exact ps_shl rfl rfl rfl (by decide) | exact ps_shl rfl rfl rfl (by omega)) ?_; refine ok_p rfl rfl rfl (by first | exact ps_orS rfl rfl rfl l4 (by omega) (by omega) | exact ps_int rfl rfl rfl rfl) ?_; refine ok_p rfl rfl rfl (by exact ps_assign rfl rfl) ?_; refine ok_nil ?_; refine ok_env [(0, _), (4, _), (5, _)] ⟨rfl, rfl, rfl, trivial⟩ ?_)
    | (refine ok_region (i := 6) ?_; refine ok_p rfl rfl rfl (by exact ps_move rfl rfl) ?_; refine ok_p rfl rfl rfl (by exact ps_move rfl rfl) ?_; refine ok_p rfl rfl rfl (by first | exact ps_sidxE i rfl rfl rfl rfl (by omega) | exact ps_sidx rfl rfl rfl (by omega)) ?_; refine ok_p rfl rfl rfl (by exact ps_int rfl rfl rfl rfl) ?_; refine ok_nil ?_; refine ok_env [(0, _), (4, _), (5, _), (30, _)] ⟨rfl, rfl, rfl, rfl, trivial⟩ ?_)
    | (refine ok_region (i := 7) ?_; refine ok_p rfl rfl rfl (by exact ps_move rfl rfl) ?_; refine ok_p rfl rfl rfl (by exact ps_move rfl rfl) ?_; refine ok_p rfl rfl rfl (by first | exact ps_sidxE i rfl rfl rfl rfl (by omega) | exact ps_sidx rfl rfl rfl (by omega)) ?_; refine ok_p rfl rfl rfl (by exact ps_int rfl rfl rfl rfl) ?_; refine ok_p rfl rfl rfl (by exact ps_move rfl rfl) ?_; refine ok_pg rfl rfl rfl rfl rfl (gT _) (fun hp => by (have hpd := hp; (try simp only [decide_eq_true_eq, decide_eq_false_iff_not, Bool.or_eq_true, Bool.or_eq_false_iff, Bool.and_eq_true, Bool.and_eq_false_iff, Bool.not_eq_true', Bool.not_eq_false', bne_iff_ne, beq_iff_eq, bne_eq_false_iff_eq, beq_eq_false_iff_ne, ne_eq, Bool.not_true, Bool.not_false, Bool.false_eq_true, Bool.true_eq_false, inB_true, inB_false] at hpd); exact ps_move rfl (by first | (refine og rfl ?_; assumption) | exact rfl))) ?_; refine ok_pg rfl rfl rfl rfl rfl (gT _) (fun hp => by (have hpd := hp; (try simp only [decide_eq_true_eq, decide_eq_false_iff_not, Bool.or_eq_true, Bool.or_eq_false_iff, Bool.and_eq_true, Bool.and_eq_false_iff, Bool.not_eq_true', Bool.not_eq_false', bne_iff_ne, beq_iff_eq, bne_eq_false_iff_eq, beq_eq_false_iff_ne, ne_eq, Bool.not_true, Bool.not_false, Bool.false_eq_true, Bool.true_eq_false, inB_true, inB_false] at hpd); exact ps_int rfl (by first | (refine og rfl ?_; assumption) | exact rfl) (by first | (refine og rfl ?_; assumption) | exact rfl) rfl)) ?_; refine ok_p rfl rfl rfl (by first | exact ps_and rfl rfl rfl | exact ps_and_in (by assumption) rfl rfl rfl | exact ps_pick_t rfl rfl (by simp_all; done) rfl | exact ps_pick_f rfl rfl (by simp_all; done) rfl) ?_; refine ok_nil ?_; refine ok_env [(4, _), (5, _), (38, _)] ⟨rfl, rfl, rfl, trivial⟩ ?_)
    | (refine ok_region (i := 8) ?_; refine ok_p rfl rfl rfl (by exact ps_assign rfl rfl) ?_; refine ok_p rfl rfl rfl (by exact ps_assign rfl rfl) ?_; refine ok_nil ?_; refine ok_env [(2, _), (3, _)] ⟨rfl, rfl, trivial⟩ ?_)
    | (refine ok_region (i := 9) ?_; refine ok_p rfl rfl rfl (by exact ps_move rfl rfl) ?_; refine ok_p rfl rfl rfl (by exact ps_move rfl rfl) ?_; refine ok_p rfl rfl rfl (by exact ps_add rfl rfl rfl (by omega)) ?_; refine ok_p rfl rfl rfl (by exact ps_assign rfl rfl) ?_; refine ok_p rfl rfl rfl (by exact ps_assign rfl rfl) ?_; refine ok_nil ?_; refine ok_env [(2, _), (3, _)] ⟨rfl, rfl, trivial⟩ ?_)
    | (refine ok_region (i := 10) ?_; refine ok_p rfl rfl rfl (by exact ps_assign rfl rfl) ?_; refine ok_p rfl rfl rfl (by exact ps_assign rfl rfl) ?_; refine ok_nil ?_; refine ok_env [(2, _), (3, _)] ⟨rfl, rfl, trivial⟩ ?_))
  · have st := hi.step (by omega) (by omega) (by omega)
    refine fun a w' he hw => ⟨⟨i + 1, st⟩, by simp only; omega, he.sub ⟨rfl, ?_, rfl, trivial⟩, hw⟩
    have hb : ((bl s).getD i 0).toNat % 128 = bt s i % 128 := rfl
    have hl : ((bl s).take i).length = i := by rw [List.length_take, bl_len]; omega
    simp only [take_snoc (show i < s.size by omega), sumL_snoc, hb, hl]; rfl
  · have e := hi.bad (by omega) (by omega) (by omega) (by omega)
    refine ok_endL (vs := [_, _]) rfl ⟨rfl, rfl, trivial⟩ (fun w' hw => ⟨?_, hw.below⟩)
    rw [e]; rfl
  · have e := hi.good (by omega) (by omega) (by omega) (by omega)
    refine ok_endL (vs := [_, _]) rfl ⟨rfl, rfl, trivial⟩ (fun w' hw => ⟨?_, hw.below⟩)
    rw [e, show bt s i % 128 = bt s i by omega]; rfl
  · have e := hi.none (by omega)
    refine ok_endL (vs := [_, _]) rfl ⟨rfl, rfl, trivial⟩ (fun w' hw => ⟨?_, hw.below⟩)
    rw [e]; rfl
theorem str_eq (n k : Nat) (s : ByteArray) : (vS n = s.extract 0 k) ↔ varL n = (bl s).take k := by
  constructor
  · intro h
    have := congrArg bl h
    rw [bl_extract, List.drop_zero] at this
    exact this
  · intro h
    apply bl_ext
    rw [bl_extract, List.drop_zero]
    exact h
theorem sumL_step {s : ByteArray} {j k : Nat} (hj : j < k) (hk : k ≤ s.size) : sumL (((bl s).take k).drop j) = sumL (((bl s).take k).drop (j + 1)) * 128 + bt s j % 128 := by
  have hl : ((bl s).take k).length = k := by rw [List.length_take, bl_len]; omega
  rw [List.drop_eq_getElem_cons (by omega), sumL]
  congr 2
  rw [List.getElem_take]
  unfold bt
  rw [List.getD_eq_getElem?_getD, List.getElem?_eq_getElem (by rw [bl_len]; omega)]; rfl
theorem rvS_no {l : List UInt8} {f k : Nat} (h : l.length < k) : rvS l f k = none := by
  cases f with
  | zero => rfl
  | succ f => unfold rvS; rw [if_neg (by omega)]
theorem s_ReadVar_c (s : ByteArray) (hs : s.size ≤ 4194304) (w : World) :
    Calls Try.prog 228 #[.string s] w fun e w' => e = .returned (.tuple #[.int .i64 (rvN (bl s)).1, .int .i64 (rvN (bl s)).2]) ∧ Below w.heap.size w w' := by
  have l0 := bl_len s
  refine ok_enter 39 Try.func228 rfl rfl rfl ?_
  repeat' (first
    | refine ok_seq ?_
    | refine ok_then ?_
    | refine ok_then_ret ?_
    | refine ok_then_exit ?_
    | refine ok_block ?_
    | refine ok_in_normal ?_
    | refine ok_in_ret ?_
    | refine ok_in_exit ?_
    | refine ok_in_other rfl ?_
    | (refine ok_cond rfl (fun hc => ?_) (fun hc => ?_) <;> (have hd := hc; (try simp only [decide_eq_true_eq, decide_eq_false_iff_not, Bool.or_eq_true, Bool.or_eq_false_iff, Bool.and_eq_true, Bool.and_eq_false_iff, Bool.not_eq_true', Bool.not_eq_false', bne_iff_ne, beq_iff_eq, bne_eq_false_iff_eq, beq_eq_false_iff_ne, ne_eq, Bool.not_true, Bool.not_false, Bool.false_eq_true, Bool.true_eq_false, inB_true, inB_false] at hd)))
    | refine ok_ret ?_
    | refine ok_exit ?_
    | refine ok_skip ?_
    | (refine ok_region (i := 0) ?_; refine ok_p rfl rfl rfl (by exact ps_assign rfl rfl) ?_; refine ok_p rfl rfl rfl (by exact ps_assign rfl rfl) ?_; refine ok_nil ?_; refine ok_env [(0, _)] ⟨rfl, trivial⟩ ?_)
    | (refine ok_region (i := 1) ?_; refine ok_p rfl rfl rfl (by exact ps_assign rfl rfl) ?_; refine ok_nil ?_; refine ok_env [(0, _), (4, _)] ⟨rfl, rfl, trivial⟩ ?_)
    | (refine ok_region (i := 2) ?_; refine ok_p rfl rfl rfl (by exact ps_move rfl rfl) ?_; refine ok_p rfl rfl rfl (by exact ps_int rfl rfl rfl rfl) ?_; refine ok_p rfl rfl rfl (by exact ps_move rfl rfl) ?_; refine ok_pg rfl rfl rfl rfl rfl (gT _) (fun hp => by (have hpd := hp; (try simp only [decide_eq_true_eq, decide_eq_false_iff_not, Bool.or_eq_true, Bool.or_eq_false_iff, Bool.and_eq_true, Bool.and_eq_false_iff, Bool.not_eq_true', Bool.not_eq_false', bne_iff_ne, beq_iff_eq, bne_eq_false_iff_eq, beq_eq_false_iff_ne, ne_eq, Bool.not_true, Bool.not_false, Bool.false_eq_true, Bool.true_eq_false, inB_true, inB_false] at hpd); exact ps_move rfl (by first | (refine og rfl ?_; assumption) | exact rfl))) ?_; refine ok_pg rfl rfl rfl rfl rfl (gT _) (fun hp => by (have hpd := hp; (try simp only [decide_eq_true_eq, decide_eq_false_iff_not, Bool.or_eq_true, Bool.or_eq_false_iff, Bool.and_eq_true, Bool.and_eq_false_iff, Bool.not_eq_true', Bool.not_eq_false', bne_iff_ne, beq_iff_eq, bne_eq_false_iff_eq, beq_eq_false_iff_ne, ne_eq, Bool.not_true, Bool.not_false, Bool.false_eq_true, Bool.true_eq_false, inB_true, inB_false] at hpd); exact ps_move rfl (by first | (refine og rfl ?_; assumption) | exact rfl))) ?_; refine ok_pg rfl rfl rfl rfl rfl (gT _) (fun hp => by (have hpd := hp; (try simp only [decide_eq_true_eq, decide_eq_false_iff_not, Bool.or_eq_true, Bool.or_eq_false_iff, Bool.and_eq_true, Bool.and_eq_false_iff, Bool.not_eq_true', Bool.not_eq_false', bne_iff_ne, beq_iff_eq, bne_eq_false_iff_eq, beq_eq_false_iff_ne, ne_eq, Bool.not_true, Bool.not_false, Bool.false_eq_true, Bool.true_eq_false, inB_true, inB_false] at hpd); exact ps_slen rfl (by first | (refine og rfl ?_; assumption) | exact rfl))) ?_; refine ok_pg rfl rfl rfl rfl rfl (gT _) (fun hp => by (have hpd := hp; (try simp only [decide_eq_true_eq, decide_eq_false_iff_not, Bool.or_eq_true, Bool.or_eq_false_iff, Bool.and_eq_true, Bool.and_eq_false_iff, Bool.not_eq_true', Bool.not_eq_false', bne_iff_ne, beq_iff_eq, bne_eq_false_iff_eq, beq_eq_false_iff_ne, ne_eq, Bool.not_true, Bool.not_false, Bool.false_eq_true, Bool.true_eq_false, inB_true, inB_false] at hpd); exact ps_int rfl (by first | (refine og rfl ?_; assumption) | exact rfl) (by first | (refine og rfl ?_; assumption) | exact rfl) rfl)) ?_; refine ok_p rfl rfl rfl (by first | exact ps_and rfl rfl rfl | exact ps_and_in (by assumption) rfl rfl rfl | exact ps_pick_t rfl rfl (by simp_all; done) rfl | exact ps_pick_f rfl rfl (by simp_all; done) rfl) ?_; refine ok_nil ?_; refine ok_env [(0, _), (4, _), (14, _)] ⟨rfl, rfl, rfl, trivial⟩ ?_)
    | (refine ok_region (i := 3) ?_; refine ok_p rfl rfl rfl (by exact ps_move rfl rfl) ?_; refine ok_p rfl rfl rfl (by exact ps_add rfl rfl rfl (by omega)) ?_; refine ok_p rfl rfl rfl (by exact ps_assign rfl rfl) ?_; refine ok_nil ?_; refine ok_env [(0, _), (4, _)] ⟨rfl, rfl, trivial⟩ ?_)
    | (refine ok_region (i := 4) ?_; refine ok_p rfl rfl rfl (by exact ps_assign rfl rfl) ?_; refine ok_nil ?_; refine ok_env [(0, _), (4, _), (5, _)] ⟨rfl, rfl, rfl, trivial⟩ ?_)
    | (refine ok_region (i := 5) ?_; refine ok_p rfl rfl rfl (by exact ps_move rfl rfl) ?_; refine ok_p rfl rfl rfl (by exact ps_sub rfl rfl rfl (by omega)) ?_; refine ok_p rfl rfl rfl (by exact ps_assign rfl rfl) ?_; refine ok_nil ?_; refine ok_env [(0, _), (4, _), (5, _), (6, _)] ⟨rfl, rfl, rfl, rfl, trivial⟩ ?_)
    | (refine ok_region (i := 6) ?_; refine ok_p rfl rfl rfl (by exact ps_move rfl rfl) ?_; refine ok_p rfl rfl rfl (by exact ps_int rfl rfl rfl rfl) ?_; refine ok_nil ?_; refine ok_env [(0, _), (4, _), (5, _), (6, _), (20, _)] ⟨rfl, rfl, rfl, rfl, rfl, trivial⟩ ?_)
    | (refine ok_region (i := 7) ?_; refine ok_p rfl rfl rfl (by exact ps_move rfl rfl) ?_; refine ok_p rfl rfl rfl (by exact ps_sub rfl rfl rfl (by omega)) ?_; refine ok_p rfl rfl rfl (by exact ps_assign rfl rfl) ?_; refine ok_nil ?_; refine ok_env [(0, _), (4, _), (5, _), (6, _)] ⟨rfl, rfl, rfl, rfl, trivial⟩ ?_)
    | (refine ok_region (i := 8) ?_; refine ok_p rfl rfl rfl (by exact ps_move rfl rfl) ?_; refine ok_p rfl rfl rfl (by exact ps_mul rfl rfl rfl (by omega)) ?_; refine ok_p rfl rfl rfl (by exact ps_move rfl rfl) ?_; refine ok_p rfl rfl rfl (by exact ps_move rfl rfl) ?_; refine ok_p rfl rfl rfl (by exact ps_sidx rfl rfl rfl (by omega)) ?_; refine ok_p rfl rfl rfl (by exact ps_conv_id rfl rfl (IntWalk.i64_in _ (by omega))) ?_; refine ok_p rfl rfl rfl (by exact ps_rem rfl rfl rfl (by omega) (by omega)) ?_; refine ok_p rfl rfl rfl (by exact ps_add rfl rfl rfl (by omega)) ?_; refine ok_p rfl rfl rfl (by exact ps_assign rfl rfl) ?_; refine ok_nil ?_; refine ok_env [(0, _), (4, _), (5, _), (6, _)] ⟨rfl, rfl, rfl, rfl, trivial⟩ ?_)
    | (refine ok_draw (id := 9) 6 rfl (by kernel_rfl) (by kernel_rfl) rfl (by repeat (first | exact pq_body | refine pq_then ?_ | refine pq_in ?_)) [0, 1, 2, 3, 4, 5, 6, 7, 8, 9, 10, 11, 12, 13, 14, 15, 16, 17, 18, 19, 20, 21, 22, 23] (by decide) rfl ?_; refine okT_take (i := 0) rfl (by kernel_rfl) rfl rfl rfl (by exact ps_move rfl rfl) ?_; refine okT_take (i := 2) rfl (by kernel_rfl) rfl rfl rfl (by exact ps_move rfl rfl) ?_; refine okT_take (i := 3) rfl (by kernel_rfl) rfl rfl rfl (by exact ps_move rfl rfl) ?_; refine okT_take (i := 4) rfl (by kernel_rfl) rfl rfl rfl (by fail "no rule slice") ?_; refine okT_one (i := 1) rfl rfl (by kernel_rfl) rfl rfl rfl (by fail "no maker call") (fun y w _ h => by first | exact h | exact h.tl | exact h.tl.tl | exact h.tl.tl.tl | exact h.tl.tl.tl.tl | exact h.gtl | exact h.tl.gtl | exact h.sel [0] (by decide) rfl (fun _ h => h)) ?_; rintro y32 hy32; refine okT_take (i := 5) rfl (by kernel_rfl) rfl rfl rfl (by exact ps_str rfl rfl rfl rfl) ?_; refine okT_done (by kernel_rfl) ?_; refine ok_nil ?_; refine ok_env [(0, _), (4, _), (5, _), (36, _)] ⟨rfl, rfl, rfl, rfl, trivial⟩ ?_)
    | (refine ok_region (i := 10) ?_; refine ok_p rfl rfl rfl (by exact ps_move rfl rfl) ?_; refine ok_p rfl rfl rfl (by exact ps_move rfl rfl) ?_; refine ok_p rfl rfl rfl (by exact ps_assign rfl rfl) ?_; refine ok_p rfl rfl rfl (by exact ps_assign rfl rfl) ?_; refine ok_nil ?_; refine ok_env [(2, _), (3, _)] ⟨rfl, rfl, trivial⟩ ?_)
    | (refine ok_region (i := 11) ?_; refine ok_p rfl rfl rfl (by exact ps_assign rfl rfl) ?_; refine ok_p rfl rfl rfl (by exact ps_assign rfl rfl) ?_; refine ok_nil ?_; refine ok_env [(2, _), (3, _)] ⟨rfl, rfl, trivial⟩ ?_))
  refine ok_loop (ι := { k : Nat // 1 ≤ k ∧ k ≤ 8 ∧ rvS (bl s) (8 - k) k = rv (bl s) }) (fun k => 8 - k.1) (fun k => ([(0, .string s), (4, .int .i64 k.1)], _, _)) ⟨1, by omega, by omega, rvS_rv _⟩ (fun a w he hw => ⟨⟨1, by omega, by omega, rvS_rv _⟩, he.sub ⟨rfl, rfl, trivial⟩, hw⟩) ?_
  rintro ⟨k, hk1, hk8, hr⟩
  simp only at hk1 hk8 hr ⊢
  have HR := Lib.hid hr; clear hr
  repeat' (first
    | refine ok_seq ?_
    | refine ok_then ?_
    | refine ok_then_ret ?_
    | refine ok_then_exit ?_
    | refine ok_block ?_
    | refine ok_in_normal ?_
    | refine ok_in_ret ?_
    | refine ok_in_exit ?_
    | refine ok_in_other rfl ?_
    | (refine ok_cond rfl (fun hc => ?_) (fun hc => ?_) <;> (have hd := hc; (try simp only [decide_eq_true_eq, decide_eq_false_iff_not, Bool.or_eq_true, Bool.or_eq_false_iff, Bool.and_eq_true, Bool.and_eq_false_iff, Bool.not_eq_true', Bool.not_eq_false', bne_iff_ne, beq_iff_eq, bne_eq_false_iff_eq, beq_eq_false_iff_ne, ne_eq, Bool.not_true, Bool.not_false, Bool.false_eq_true, Bool.true_eq_false, inB_true, inB_false] at hd)))
    | refine ok_ret ?_
    | refine ok_exit ?_
    | refine ok_skip ?_
    | (refine ok_region (i := 0) ?_; refine ok_p rfl rfl rfl (by exact ps_assign rfl rfl) ?_; refine ok_p rfl rfl rfl (by exact ps_assign rfl rfl) ?_; refine ok_nil ?_; refine ok_env [(0, _)] ⟨rfl, trivial⟩ ?_)
    | (refine ok_region (i := 1) ?_; refine ok_p rfl rfl rfl (by exact ps_assign rfl rfl) ?_; refine ok_nil ?_; refine ok_env [(0, _), (4, _)] ⟨rfl, rfl, trivial⟩ ?_)
    | (refine ok_region (i := 2) ?_; refine ok_p rfl rfl rfl (by exact ps_move rfl rfl) ?_; refine ok_p rfl rfl rfl (by exact ps_int rfl rfl rfl rfl) ?_; refine ok_p rfl rfl rfl (by exact ps_move rfl rfl) ?_; refine ok_pg rfl rfl rfl rfl rfl (gT _) (fun hp => by (have hpd := hp; (try simp only [decide_eq_true_eq, decide_eq_false_iff_not, Bool.or_eq_true, Bool.or_eq_false_iff, Bool.and_eq_true, Bool.and_eq_false_iff, Bool.not_eq_true', Bool.not_eq_false', bne_iff_ne, beq_iff_eq, bne_eq_false_iff_eq, beq_eq_false_iff_ne, ne_eq, Bool.not_true, Bool.not_false, Bool.false_eq_true, Bool.true_eq_false, inB_true, inB_false] at hpd); exact ps_move rfl (by first | (refine og rfl ?_; assumption) | exact rfl))) ?_; refine ok_pg rfl rfl rfl rfl rfl (gT _) (fun hp => by (have hpd := hp; (try simp only [decide_eq_true_eq, decide_eq_false_iff_not, Bool.or_eq_true, Bool.or_eq_false_iff, Bool.and_eq_true, Bool.and_eq_false_iff, Bool.not_eq_true', Bool.not_eq_false', bne_iff_ne, beq_iff_eq, bne_eq_false_iff_eq, beq_eq_false_iff_ne, ne_eq, Bool.not_true, Bool.not_false, Bool.false_eq_true, Bool.true_eq_false, inB_true, inB_false] at hpd); exact ps_move rfl (by first | (refine og rfl ?_; assumption) | exact rfl))) ?_; refine ok_pg rfl rfl rfl rfl rfl (gT _) (fun hp => by (have hpd := hp; (try simp only [decide_eq_true_eq, decide_eq_false_iff_not, Bool.or_eq_true, Bool.or_eq_false_iff, Bool.and_eq_true, Bool.and_eq_false_iff, Bool.not_eq_true', Bool.not_eq_false', bne_iff_ne, beq_iff_eq, bne_eq_false_iff_eq, beq_eq_false_iff_ne, ne_eq, Bool.not_true, Bool.not_false, Bool.false_eq_true, Bool.true_eq_false, inB_true, inB_false] at hpd); exact ps_slen rfl (by first | (refine og rfl ?_; assumption) | exact rfl))) ?_; refine ok_pg rfl rfl rfl rfl rfl (gT _) (fun hp => by (have hpd := hp; (try simp only [decide_eq_true_eq, decide_eq_false_iff_not, Bool.or_eq_true, Bool.or_eq_false_iff, Bool.and_eq_true, Bool.and_eq_false_iff, Bool.not_eq_true', Bool.not_eq_false', bne_iff_ne, beq_iff_eq, bne_eq_false_iff_eq, beq_eq_false_iff_ne, ne_eq, Bool.not_true, Bool.not_false, Bool.false_eq_true, Bool.true_eq_false, inB_true, inB_false] at hpd); exact ps_int rfl (by first | (refine og rfl ?_; assumption) | exact rfl) (by first | (refine og rfl ?_; assumption) | exact rfl) rfl)) ?_; refine ok_p rfl rfl rfl (by first | exact ps_and rfl rfl rfl | exact ps_and_in (by assumption) rfl rfl rfl | exact ps_pick_t rfl rfl (by simp_all; done) rfl | exact ps_pick_f rfl rfl (by simp_all; done) rfl) ?_; refine ok_nil ?_; refine ok_env [(0, _), (4, _), (14, _)] ⟨rfl, rfl, rfl, trivial⟩ ?_)
    | (refine ok_region (i := 3) ?_; refine ok_p rfl rfl rfl (by exact ps_move rfl rfl) ?_; refine ok_p rfl rfl rfl (by exact ps_add rfl rfl rfl (by omega)) ?_; refine ok_p rfl rfl rfl (by exact ps_assign rfl rfl) ?_; refine ok_nil ?_; refine ok_env [(0, _), (4, _)] ⟨rfl, rfl, trivial⟩ ?_)
    | (refine ok_region (i := 4) ?_; refine ok_p rfl rfl rfl (by exact ps_assign rfl rfl) ?_; refine ok_nil ?_; refine ok_env [(0, _), (4, _), (5, _)] ⟨rfl, rfl, rfl, trivial⟩ ?_)
    | (refine ok_region (i := 5) ?_; refine ok_p rfl rfl rfl (by exact ps_move rfl rfl) ?_; refine ok_p rfl rfl rfl (by exact ps_sub rfl rfl rfl (by omega)) ?_; refine ok_p rfl rfl rfl (by exact ps_assign rfl rfl) ?_; refine ok_nil ?_; refine ok_env [(0, _), (4, _), (5, _), (6, _)] ⟨rfl, rfl, rfl, rfl, trivial⟩ ?_)
    | (refine ok_region (i := 6) ?_; refine ok_p rfl rfl rfl (by exact ps_move rfl rfl) ?_; refine ok_p rfl rfl rfl (by exact ps_int rfl rfl rfl rfl) ?_; refine ok_nil ?_; refine ok_env [(0, _), (4, _), (5, _), (6, _), (20, _)] ⟨rfl, rfl, rfl, rfl, rfl, trivial⟩ ?_)
    | (refine ok_region (i := 7) ?_; refine ok_p rfl rfl rfl (by exact ps_move rfl rfl) ?_; refine ok_p rfl rfl rfl (by exact ps_sub rfl rfl rfl (by omega)) ?_; refine ok_p rfl rfl rfl (by exact ps_assign rfl rfl) ?_; refine ok_nil ?_; refine ok_env [(0, _), (4, _), (5, _), (6, _)] ⟨rfl, rfl, rfl, rfl, trivial⟩ ?_)
    | (refine ok_region (i := 8) ?_; refine ok_p rfl rfl rfl (by exact ps_move rfl rfl) ?_; refine ok_p rfl rfl rfl (by exact ps_mul rfl rfl rfl (by omega)) ?_; refine ok_p rfl rfl rfl (by exact ps_move rfl rfl) ?_; refine ok_p rfl rfl rfl (by exact ps_move rfl rfl) ?_; refine ok_p rfl rfl rfl (by exact ps_sidx rfl rfl rfl (by omega)) ?_; refine ok_p rfl rfl rfl (by exact ps_conv_id rfl rfl (IntWalk.i64_in _ (by omega))) ?_; refine ok_p rfl rfl rfl (by exact ps_rem rfl rfl rfl (by omega) (by omega)) ?_; refine ok_p rfl rfl rfl (by exact ps_add rfl rfl rfl (by omega)) ?_; refine ok_p rfl rfl rfl (by exact ps_assign rfl rfl) ?_; refine ok_nil ?_; refine ok_env [(0, _), (4, _), (5, _), (6, _)] ⟨rfl, rfl, rfl, rfl, trivial⟩ ?_)
    | (refine ok_draw (id := 9) 6 rfl (by kernel_rfl) (by kernel_rfl) rfl (by repeat (first | exact pq_body | refine pq_then ?_ | refine pq_in ?_)) [0, 1, 2, 3, 4, 5, 6, 7, 8, 9, 10, 11, 12, 13, 14, 15, 16, 17, 18, 19, 20, 21, 22, 23] (by decide) rfl ?_; refine okT_take (i := 0) rfl (by kernel_rfl) rfl rfl rfl (by exact ps_move rfl rfl) ?_; refine okT_take (i := 2) rfl (by kernel_rfl) rfl rfl rfl (by exact ps_move rfl rfl) ?_; refine okT_take (i := 3) rfl (by kernel_rfl) rfl rfl rfl (by exact ps_move rfl rfl) ?_; refine okT_take (i := 4) rfl (by kernel_rfl) rfl rfl rfl (by fail "no rule slice") ?_; refine okT_one (i := 1) rfl rfl (by kernel_rfl) rfl rfl rfl (by fail "no maker call") (fun y w _ h => by first | exact h | exact h.tl | exact h.tl.tl | exact h.tl.tl.tl | exact h.tl.tl.tl.tl | exact h.gtl | exact h.tl.gtl | exact h.sel [0] (by decide) rfl (fun _ h => h)) ?_; rintro y32 hy32; refine okT_take (i := 5) rfl (by kernel_rfl) rfl rfl rfl (by exact ps_str rfl rfl rfl rfl) ?_; refine okT_done (by kernel_rfl) ?_; refine ok_nil ?_; refine ok_env [(0, _), (4, _), (5, _), (36, _)] ⟨rfl, rfl, rfl, rfl, trivial⟩ ?_)
    | (refine ok_region (i := 10) ?_; refine ok_p rfl rfl rfl (by exact ps_move rfl rfl) ?_; refine ok_p rfl rfl rfl (by exact ps_move rfl rfl) ?_; refine ok_p rfl rfl rfl (by exact ps_assign rfl rfl) ?_; refine ok_p rfl rfl rfl (by exact ps_assign rfl rfl) ?_; refine ok_nil ?_; refine ok_env [(2, _), (3, _)] ⟨rfl, rfl, trivial⟩ ?_)
    | (refine ok_region (i := 11) ?_; refine ok_p rfl rfl rfl (by exact ps_assign rfl rfl) ?_; refine ok_p rfl rfl rfl (by exact ps_assign rfl rfl) ?_; refine ok_nil ?_; refine ok_env [(2, _), (3, _)] ⟨rfl, rfl, trivial⟩ ?_))
  · have hl : ((bl s).take k).length = k := by rw [List.length_take, l0]; omega
    refine ok_loop (ι := { j : Nat // j ≤ k }) (fun j => j.1) (fun j => ([(0, .string s), (4, .int .i64 k), (5, .int .i64 (sumL (((bl s).take k).drop j.1))), (6, .int .i64 ((j.1 : Int) - 1))], _, _)) ⟨k, by omega⟩ (fun a w he hw => ⟨⟨k, by omega⟩, he.sub ⟨rfl, rfl, ?_, rfl, trivial⟩, hw⟩) ?_
    · simp only [show ((bl s).take k).drop k = [] from List.drop_of_length_le (by omega)]; rfl
    rintro ⟨j, hj⟩
    simp only at hj ⊢
    have b1 := bt_lt s (j - 1)
    have b2 := sumL_small (((bl s).take k).drop j) (by rw [List.length_drop]; omega)
    have b3 := sumL_small ((bl s).take k) (by omega)
    repeat' (first
      | refine ok_seq ?_
      | refine ok_then ?_
      | refine ok_then_ret ?_
      | refine ok_then_exit ?_
      | refine ok_block ?_
      | refine ok_in_normal ?_
      | refine ok_in_ret ?_
      | refine ok_in_exit ?_
      | refine ok_in_other rfl ?_
      | (refine ok_cond rfl (fun hc => ?_) (fun hc => ?_) <;> (have hd := hc; (try simp only [decide_eq_true_eq, decide_eq_false_iff_not, Bool.or_eq_true, Bool.or_eq_false_iff, Bool.and_eq_true, Bool.and_eq_false_iff, Bool.not_eq_true', Bool.not_eq_false', bne_iff_ne, beq_iff_eq, bne_eq_false_iff_eq, beq_eq_false_iff_ne, ne_eq, Bool.not_true, Bool.not_false, Bool.false_eq_true, Bool.true_eq_false, inB_true, inB_false] at hd)))
      | refine ok_ret ?_
      | refine ok_exit ?_
      | refine ok_skip ?_
      | (refine ok_region (i := 0) ?_; refine ok_p rfl rfl rfl (by exact ps_assign rfl rfl) ?_; refine ok_p rfl rfl rfl (by exact ps_assign rfl rfl) ?_; refine ok_nil ?_; refine ok_env [(0, _)] ⟨rfl, trivial⟩ ?_)
      | (refine ok_region (i := 1) ?_; refine ok_p rfl rfl rfl (by exact ps_assign rfl rfl) ?_; refine ok_nil ?_; refine ok_env [(0, _), (4, _)] ⟨rfl, rfl, trivial⟩ ?_)
      | (refine ok_region (i := 2) ?_; refine ok_p rfl rfl rfl (by exact ps_move rfl rfl) ?_; refine ok_p rfl rfl rfl (by exact ps_int rfl rfl rfl rfl) ?_; refine ok_p rfl rfl rfl (by exact ps_move rfl rfl) ?_; refine ok_pg rfl rfl rfl rfl rfl (gT _) (fun hp => by (have hpd := hp; (try simp only [decide_eq_true_eq, decide_eq_false_iff_not, Bool.or_eq_true, Bool.or_eq_false_iff, Bool.and_eq_true, Bool.and_eq_false_iff, Bool.not_eq_true', Bool.not_eq_false', bne_iff_ne, beq_iff_eq, bne_eq_false_iff_eq, beq_eq_false_iff_ne, ne_eq, Bool.not_true, Bool.not_false, Bool.false_eq_true, Bool.true_eq_false, inB_true, inB_false] at hpd); exact ps_move rfl (by first | (refine og rfl ?_; assumption) | exact rfl))) ?_; refine ok_pg rfl rfl rfl rfl rfl (gT _) (fun hp => by (have hpd := hp; (try simp only [decide_eq_true_eq, decide_eq_false_iff_not, Bool.or_eq_true, Bool.or_eq_false_iff, Bool.and_eq_true, Bool.and_eq_false_iff, Bool.not_eq_true', Bool.not_eq_false', bne_iff_ne, beq_iff_eq, bne_eq_false_iff_eq, beq_eq_false_iff_ne, ne_eq, Bool.not_true, Bool.not_false, Bool.false_eq_true, Bool.true_eq_false, inB_true, inB_false] at hpd); exact ps_move rfl (by first | (refine og rfl ?_; assumption) | exact rfl))) ?_; refine ok_pg rfl rfl rfl rfl rfl (gT _) (fun hp => by (have hpd := hp; (try simp only [decide_eq_true_eq, decide_eq_false_iff_not, Bool.or_eq_true, Bool.or_eq_false_iff, Bool.and_eq_true, Bool.and_eq_false_iff, Bool.not_eq_true', Bool.not_eq_false', bne_iff_ne, beq_iff_eq, bne_eq_false_iff_eq, beq_eq_false_iff_ne, ne_eq, Bool.not_true, Bool.not_false, Bool.false_eq_true, Bool.true_eq_false, inB_true, inB_false] at hpd); exact ps_slen rfl (by first | (refine og rfl ?_; assumption) | exact rfl))) ?_; refine ok_pg rfl rfl rfl rfl rfl (gT _) (fun hp => by (have hpd := hp; (try simp only [decide_eq_true_eq, decide_eq_false_iff_not, Bool.or_eq_true, Bool.or_eq_false_iff, Bool.and_eq_true, Bool.and_eq_false_iff, Bool.not_eq_true', Bool.not_eq_false', bne_iff_ne, beq_iff_eq, bne_eq_false_iff_eq, beq_eq_false_iff_ne, ne_eq, Bool.not_true, Bool.not_false, Bool.false_eq_true, Bool.true_eq_false, inB_true, inB_false] at hpd); exact ps_int rfl (by first | (refine og rfl ?_; assumption) | exact rfl) (by first | (refine og rfl ?_; assumption) | exact rfl) rfl)) ?_; refine ok_p rfl rfl rfl (by first | exact ps_and rfl rfl rfl | exact ps_and_in (by assumption) rfl rfl rfl | exact ps_pick_t rfl rfl (by simp_all; done) rfl | exact ps_pick_f rfl rfl (by simp_all; done) rfl) ?_; refine ok_nil ?_; refine ok_env [(0, _), (4, _), (14, _)] ⟨rfl, rfl, rfl, trivial⟩ ?_)
      | (refine ok_region (i := 3) ?_; refine ok_p rfl rfl rfl (by exact ps_move rfl rfl) ?_; refine ok_p rfl rfl rfl (by exact ps_add rfl rfl rfl (by omega)) ?_; refine ok_p rfl rfl rfl (by exact ps_assign rfl rfl) ?_; refine ok_nil ?_; refine ok_env [(0, _), (4, _)] ⟨rfl, rfl, trivial⟩ ?_)
      | (refine ok_region (i := 4) ?_; refine ok_p rfl rfl rfl (by exact ps_assign rfl rfl) ?_; refine ok_nil ?_; refine ok_env [(0, _), (4, _), (5, _)] ⟨rfl, rfl, rfl, trivial⟩ ?_)
      | (refine ok_region (i := 5) ?_; refine ok_p rfl rfl rfl (by exact ps_move rfl rfl) ?_; refine ok_p rfl rfl rfl (by exact ps_sub rfl rfl rfl (by omega)) ?_; refine ok_p rfl rfl rfl (by exact ps_assign rfl rfl) ?_; refine ok_nil ?_; refine ok_env [(0, _), (4, _), (5, _), (6, _)] ⟨rfl, rfl, rfl, rfl, trivial⟩ ?_)
      | (refine ok_region (i := 6) ?_; refine ok_p rfl rfl rfl (by exact ps_move rfl rfl) ?_; refine ok_p rfl rfl rfl (by exact ps_int rfl rfl rfl rfl) ?_; refine ok_nil ?_; refine ok_env [(0, _), (4, _), (5, _), (6, _), (20, _)] ⟨rfl, rfl, rfl, rfl, rfl, trivial⟩ ?_)
      | (refine ok_region (i := 7) ?_; refine ok_p rfl rfl rfl (by exact ps_move rfl rfl) ?_; refine ok_p rfl rfl rfl (by exact ps_sub rfl rfl rfl (by omega)) ?_; refine ok_p rfl rfl rfl (by exact ps_assign rfl rfl) ?_; refine ok_nil ?_; refine ok_env [(0, _), (4, _), (5, _), (6, _)] ⟨rfl, rfl, rfl, rfl, trivial⟩ ?_)
      | (refine ok_region (i := 8) ?_; refine ok_p rfl rfl rfl (by exact ps_move rfl rfl) ?_; refine ok_p rfl rfl rfl (by exact ps_mul rfl rfl rfl (by omega)) ?_; refine ok_p rfl rfl rfl (by exact ps_move rfl rfl) ?_; refine ok_p rfl rfl rfl (by exact ps_move rfl rfl) ?_; refine ok_p rfl rfl rfl (by first | exact ps_sidxE (j - 1) rfl rfl rfl (by omega) (by omega) | exact ps_sidx rfl rfl rfl (by omega)) ?_; refine ok_p rfl rfl rfl (by exact ps_conv_id rfl rfl (IntWalk.i64_in _ (by omega))) ?_; refine ok_p rfl rfl rfl (by exact ps_rem rfl rfl rfl (by omega) (by omega)) ?_; refine ok_p rfl rfl rfl (by exact ps_add rfl rfl rfl (by omega)) ?_; refine ok_p rfl rfl rfl (by exact ps_assign rfl rfl) ?_; refine ok_nil ?_; refine ok_env [(0, _), (4, _), (5, _), (6, _)] ⟨rfl, rfl, rfl, rfl, trivial⟩ ?_)
      | (refine ok_draw (id := 9) 6 rfl (by kernel_rfl) (by kernel_rfl) rfl (by repeat (first | exact pq_body | refine pq_then ?_ | refine pq_in ?_)) [0, 1, 2, 3, 4, 5, 6, 7, 8, 9, 10, 11, 12, 13, 14, 15, 16, 17, 18, 19, 20, 21, 22, 23] (by decide) rfl ?_; refine okT_take (i := 0) rfl (by kernel_rfl) rfl rfl rfl (by exact ps_move rfl rfl) ?_; refine okT_take (i := 2) rfl (by kernel_rfl) rfl rfl rfl (by exact ps_move rfl rfl) ?_; refine okT_take (i := 3) rfl (by kernel_rfl) rfl rfl rfl (by exact ps_move rfl rfl) ?_; refine okT_take (i := 4) rfl (by kernel_rfl) rfl rfl rfl (by fail "no rule slice") ?_; refine okT_one (i := 1) rfl rfl (by kernel_rfl) rfl rfl rfl (by fail "no maker call") (fun y w _ h => by first | exact h | exact h.tl | exact h.tl.tl | exact h.tl.tl.tl | exact h.tl.tl.tl.tl | exact h.gtl | exact h.tl.gtl | exact h.sel [0] (by decide) rfl (fun _ h => h)) ?_; rintro y32 hy32; refine okT_take (i := 5) rfl (by kernel_rfl) rfl rfl rfl (by exact ps_str rfl rfl rfl rfl) ?_; refine okT_done (by kernel_rfl) ?_; refine ok_nil ?_; refine ok_env [(0, _), (4, _), (5, _), (36, _)] ⟨rfl, rfl, rfl, rfl, trivial⟩ ?_)
      | (refine ok_region (i := 10) ?_; refine ok_p rfl rfl rfl (by exact ps_move rfl rfl) ?_; refine ok_p rfl rfl rfl (by exact ps_move rfl rfl) ?_; refine ok_p rfl rfl rfl (by exact ps_assign rfl rfl) ?_; refine ok_p rfl rfl rfl (by exact ps_assign rfl rfl) ?_; refine ok_nil ?_; refine ok_env [(2, _), (3, _)] ⟨rfl, rfl, trivial⟩ ?_)
      | (refine ok_region (i := 11) ?_; refine ok_p rfl rfl rfl (by exact ps_assign rfl rfl) ?_; refine ok_p rfl rfl rfl (by exact ps_assign rfl rfl) ?_; refine ok_nil ?_; refine ok_env [(2, _), (3, _)] ⟨rfl, rfl, trivial⟩ ?_))
    · have e := sumL_step (s := s) (j := j - 1) (k := k) (by omega) (by omega)
      rw [show j - 1 + 1 = j by omega] at e
      refine fun a w' he hw => ⟨⟨j - 1, by omega⟩, by simp only; omega, he.sub ⟨rfl, rfl, ?_, ?_, trivial⟩, hw⟩
      · simp only [e]; rfl
      · simp only [show (((j - 1 : Nat) : Int)) = (j : Int) - 1 by omega]; rfl
    obtain rfl : j = 0 := by omega
    rw [List.drop_zero]
    repeat' (first
      | refine ok_seq ?_
      | refine ok_then ?_
      | refine ok_then_ret ?_
      | refine ok_then_exit ?_
      | refine ok_block ?_
      | refine ok_in_normal ?_
      | refine ok_in_ret ?_
      | refine ok_in_exit ?_
      | refine ok_in_other rfl ?_
      | (refine ok_cond rfl (fun hc => ?_) (fun hc => ?_) <;> (have hd := hc; (try simp only [decide_eq_true_eq, decide_eq_false_iff_not, Bool.or_eq_true, Bool.or_eq_false_iff, Bool.and_eq_true, Bool.and_eq_false_iff, Bool.not_eq_true', Bool.not_eq_false', bne_iff_ne, beq_iff_eq, bne_eq_false_iff_eq, beq_eq_false_iff_ne, ne_eq, Bool.not_true, Bool.not_false, Bool.false_eq_true, Bool.true_eq_false, inB_true, inB_false] at hd)))
      | refine ok_ret ?_
      | refine ok_exit ?_
      | refine ok_skip ?_
      | (refine ok_region (i := 0) ?_; refine ok_p rfl rfl rfl (by exact ps_assign rfl rfl) ?_; refine ok_p rfl rfl rfl (by exact ps_assign rfl rfl) ?_; refine ok_nil ?_; refine ok_env [(0, _)] ⟨rfl, trivial⟩ ?_)
      | (refine ok_region (i := 1) ?_; refine ok_p rfl rfl rfl (by exact ps_assign rfl rfl) ?_; refine ok_nil ?_; refine ok_env [(0, _), (4, _)] ⟨rfl, rfl, trivial⟩ ?_)
      | (refine ok_region (i := 2) ?_; refine ok_p rfl rfl rfl (by exact ps_move rfl rfl) ?_; refine ok_p rfl rfl rfl (by exact ps_int rfl rfl rfl rfl) ?_; refine ok_p rfl rfl rfl (by exact ps_move rfl rfl) ?_; refine ok_pg rfl rfl rfl rfl rfl (gT _) (fun hp => by (have hpd := hp; (try simp only [decide_eq_true_eq, decide_eq_false_iff_not, Bool.or_eq_true, Bool.or_eq_false_iff, Bool.and_eq_true, Bool.and_eq_false_iff, Bool.not_eq_true', Bool.not_eq_false', bne_iff_ne, beq_iff_eq, bne_eq_false_iff_eq, beq_eq_false_iff_ne, ne_eq, Bool.not_true, Bool.not_false, Bool.false_eq_true, Bool.true_eq_false, inB_true, inB_false] at hpd); exact ps_move rfl (by first | (refine og rfl ?_; assumption) | exact rfl))) ?_; refine ok_pg rfl rfl rfl rfl rfl (gT _) (fun hp => by (have hpd := hp; (try simp only [decide_eq_true_eq, decide_eq_false_iff_not, Bool.or_eq_true, Bool.or_eq_false_iff, Bool.and_eq_true, Bool.and_eq_false_iff, Bool.not_eq_true', Bool.not_eq_false', bne_iff_ne, beq_iff_eq, bne_eq_false_iff_eq, beq_eq_false_iff_ne, ne_eq, Bool.not_true, Bool.not_false, Bool.false_eq_true, Bool.true_eq_false, inB_true, inB_false] at hpd); exact ps_move rfl (by first | (refine og rfl ?_; assumption) | exact rfl))) ?_; refine ok_pg rfl rfl rfl rfl rfl (gT _) (fun hp => by (have hpd := hp; (try simp only [decide_eq_true_eq, decide_eq_false_iff_not, Bool.or_eq_true, Bool.or_eq_false_iff, Bool.and_eq_true, Bool.and_eq_false_iff, Bool.not_eq_true', Bool.not_eq_false', bne_iff_ne, beq_iff_eq, bne_eq_false_iff_eq, beq_eq_false_iff_ne, ne_eq, Bool.not_true, Bool.not_false, Bool.false_eq_true, Bool.true_eq_false, inB_true, inB_false] at hpd); exact ps_slen rfl (by first | (refine og rfl ?_; assumption) | exact rfl))) ?_; refine ok_pg rfl rfl rfl rfl rfl (gT _) (fun hp => by (have hpd := hp; (try simp only [decide_eq_true_eq, decide_eq_false_iff_not, Bool.or_eq_true, Bool.or_eq_false_iff, Bool.and_eq_true, Bool.and_eq_false_iff, Bool.not_eq_true', Bool.not_eq_false', bne_iff_ne, beq_iff_eq, bne_eq_false_iff_eq, beq_eq_false_iff_ne, ne_eq, Bool.not_true, Bool.not_false, Bool.false_eq_true, Bool.true_eq_false, inB_true, inB_false] at hpd); exact ps_int rfl (by first | (refine og rfl ?_; assumption) | exact rfl) (by first | (refine og rfl ?_; assumption) | exact rfl) rfl)) ?_; refine ok_p rfl rfl rfl (by first | exact ps_and rfl rfl rfl | exact ps_and_in (by assumption) rfl rfl rfl | exact ps_pick_t rfl rfl (by simp_all; done) rfl | exact ps_pick_f rfl rfl (by simp_all; done) rfl) ?_; refine ok_nil ?_; refine ok_env [(0, _), (4, _), (14, _)] ⟨rfl, rfl, rfl, trivial⟩ ?_)
      | (refine ok_region (i := 3) ?_; refine ok_p rfl rfl rfl (by exact ps_move rfl rfl) ?_; refine ok_p rfl rfl rfl (by exact ps_add rfl rfl rfl (by omega)) ?_; refine ok_p rfl rfl rfl (by exact ps_assign rfl rfl) ?_; refine ok_nil ?_; refine ok_env [(0, _), (4, _)] ⟨rfl, rfl, trivial⟩ ?_)
      | (refine ok_region (i := 4) ?_; refine ok_p rfl rfl rfl (by exact ps_assign rfl rfl) ?_; refine ok_nil ?_; refine ok_env [(0, _), (4, _), (5, _)] ⟨rfl, rfl, rfl, trivial⟩ ?_)
      | (refine ok_region (i := 5) ?_; refine ok_p rfl rfl rfl (by exact ps_move rfl rfl) ?_; refine ok_p rfl rfl rfl (by exact ps_sub rfl rfl rfl (by omega)) ?_; refine ok_p rfl rfl rfl (by exact ps_assign rfl rfl) ?_; refine ok_nil ?_; refine ok_env [(0, _), (4, _), (5, _), (6, _)] ⟨rfl, rfl, rfl, rfl, trivial⟩ ?_)
      | (refine ok_region (i := 6) ?_; refine ok_p rfl rfl rfl (by exact ps_move rfl rfl) ?_; refine ok_p rfl rfl rfl (by exact ps_int rfl rfl rfl rfl) ?_; refine ok_nil ?_; refine ok_env [(0, _), (4, _), (5, _), (6, _), (20, _)] ⟨rfl, rfl, rfl, rfl, rfl, trivial⟩ ?_)
      | (refine ok_region (i := 7) ?_; refine ok_p rfl rfl rfl (by exact ps_move rfl rfl) ?_; refine ok_p rfl rfl rfl (by exact ps_sub rfl rfl rfl (by omega)) ?_; refine ok_p rfl rfl rfl (by exact ps_assign rfl rfl) ?_; refine ok_nil ?_; refine ok_env [(0, _), (4, _), (5, _), (6, _)] ⟨rfl, rfl, rfl, rfl, trivial⟩ ?_)
      | (refine ok_region (i := 8) ?_; refine ok_p rfl rfl rfl (by exact ps_move rfl rfl) ?_; refine ok_p rfl rfl rfl (by exact ps_mul rfl rfl rfl (by omega)) ?_; refine ok_p rfl rfl rfl (by exact ps_move rfl rfl) ?_; refine ok_p rfl rfl rfl (by exact ps_move rfl rfl) ?_; refine ok_p rfl rfl rfl (by exact ps_sidx rfl rfl rfl (by omega)) ?_; refine ok_p rfl rfl rfl (by exact ps_conv_id rfl rfl (IntWalk.i64_in _ (by omega))) ?_; refine ok_p rfl rfl rfl (by exact ps_rem rfl rfl rfl (by omega) (by omega)) ?_; refine ok_p rfl rfl rfl (by exact ps_add rfl rfl rfl (by omega)) ?_; refine ok_p rfl rfl rfl (by exact ps_assign rfl rfl) ?_; refine ok_nil ?_; refine ok_env [(0, _), (4, _), (5, _), (6, _)] ⟨rfl, rfl, rfl, rfl, trivial⟩ ?_)
      | (refine ok_draw (id := 9) 6 rfl (by kernel_rfl) (by kernel_rfl) rfl (by repeat (first | exact pq_body | refine pq_then ?_ | refine pq_in ?_)) [0, 1, 2, 3, 4, 5, 6, 7, 8, 9, 10, 11, 12, 13, 14, 15, 16, 17, 18, 19, 20, 21, 22, 23] (by decide) rfl ?_; refine okT_take (i := 0) rfl (by kernel_rfl) rfl rfl rfl (by exact ps_move rfl rfl) ?_; refine okT_take (i := 2) rfl (by kernel_rfl) rfl rfl rfl (by exact ps_move rfl rfl) ?_; refine okT_take (i := 3) rfl (by kernel_rfl) rfl rfl rfl (by exact ps_move rfl rfl) ?_; refine okT_take (i := 4) rfl (by kernel_rfl) rfl rfl rfl (by exact ps_sslice rfl rfl rfl ⟨_, rfl⟩ (by omega) (by omega)) ?_; refine okT_one (i := 1) rfl rfl (by kernel_rfl) rfl rfl rfl (by exact ms_s1 rfl rfl (fun _ _ w hw => xs_Var_v _ (by omega) w)) (fun y w _ h => by first | exact h | exact h.tl | exact h.tl.tl | exact h.tl.tl.tl | exact h.tl.tl.tl.tl | exact h.gtl | exact h.tl.gtl | exact h.sel [0] (by decide) rfl (fun _ h => h)) ?_; rintro y32 hy32; refine okT_take (i := 5) rfl (by kernel_rfl) rfl rfl rfl (by exact ps_str rfl rfl rfl rfl) ?_; refine okT_done (by kernel_rfl) ?_; refine ok_nil ?_; refine ok_env [(0, _), (4, _), (5, _), (36, _)] ⟨rfl, rfl, rfl, rfl, trivial⟩ ?_)
      | (refine ok_region (i := 10) ?_; refine ok_p rfl rfl rfl (by exact ps_move rfl rfl) ?_; refine ok_p rfl rfl rfl (by exact ps_move rfl rfl) ?_; refine ok_p rfl rfl rfl (by exact ps_assign rfl rfl) ?_; refine ok_p rfl rfl rfl (by exact ps_assign rfl rfl) ?_; refine ok_nil ?_; refine ok_env [(2, _), (3, _)] ⟨rfl, rfl, trivial⟩ ?_)
      | (refine ok_region (i := 11) ?_; refine ok_p rfl rfl rfl (by exact ps_assign rfl rfl) ?_; refine ok_p rfl rfl rfl (by exact ps_assign rfl rfl) ?_; refine ok_nil ?_; refine ok_env [(2, _), (3, _)] ⟨rfl, rfl, trivial⟩ ?_))
    · have hg := (str_eq _ _ _).1 (sEq_t hd)
      have e : rvN (bl s) = (sumL ((bl s).take k), k) := by
        unfold rvN
        rw [← HR.out, show 8 - k = (8 - (k + 1)) + 1 by omega, rvS, if_pos (by omega), if_pos hg]; rfl
      refine ok_endL (vs := [_, _]) rfl ⟨rfl, rfl, trivial⟩ (fun w' hw => ⟨?_, hw.below⟩)
      rw [e]; rfl
    · have hg : ¬ varL (sumL ((bl s).take k)) = (bl s).take k := fun h => by
        have := sEq_f hd
        exact this ((str_eq _ _ _).2 h)
      have e : rvS (bl s) (8 - (k + 1)) (k + 1) = rv (bl s) := by
        rw [← HR.out, show 8 - k = (8 - (k + 1)) + 1 by omega, rvS, if_pos (by omega), if_neg hg]
      exact fun a w' he hw => ⟨⟨k + 1, by omega, by omega, e⟩, by simp only; omega, he.sub ⟨rfl, rfl, trivial⟩, hw⟩
  · have e : rv (bl s) = none := by
      rw [← HR.out]
      rcases Nat.lt_or_ge (bl s).length k with h | h
      · exact rvS_no h
      · have : k = 8 := by omega
        subst this; rfl
    have e2 : rvN (bl s) = (0, 0) := by unfold rvN; rw [e]; rfl
    refine ok_endL (vs := [_, _]) rfl ⟨rfl, rfl, trivial⟩ (fun w' hw => ⟨?_, hw.below⟩)
    rw [e2]; rfl
end Go.Proofs.Ytfcnimglcialbaa
/- The engine: arrays, and words as naturals. -/
namespace Go.Proofs.Ytfcnimglcialbaa
open Go.RowKit
set_option linter.unusedVariables false
set_option linter.unusedSimpArgs false
class AR (P : Program) (t : TypeId) (n e sz : outParam Nat) : Prop where h : P.underlying t = some (.array n e) ∧ (P.info? e).map (·.size) = some sz ∧ Nat.blt 1 n = true
section
variable {P : Program} {N base : Nat} {w0 : World} {E : Env} {H : List HObj} {G : List World} {Q : Exit → Act → World → Prop} {o : Oper}
theorem ps_indexA {x y : Operand} {t n e sz i k : Nat} {A : Option Addr} {q : IntKind} [ht : AR P t n e sz] (ho : o.op = .indexAddr t x y) (hx : opd E x = some (pt A k)) (hy : opd E y = some (.int q (i : Int))) (h : i < n) (hA : IsSW H G A) : PStep P E H G o (pt A (k + i * sz)) := fun N base w0 a w he hw => by
  obtain ⟨ad, rfl⟩ := hA base w0 w hw
  obtain ⟨hu, hi, hn⟩ := ht.h
  obtain ⟨inf, hi, hs⟩ := Option.map_eq_some_iff.1 hi
  have hn1 : 1 < n := by simpa [Nat.blt_eq] using hn
  have h0 : (0 : Int) ≤ (i : Int) ∧ (i : Int) < (n : Int) := by omega
  have h2 : ¬ n ≤ 1 := by omega
  simp [execOp, ho, he.eval hx, he.eval hy, Instr.indexAt, Instr.sureAddr, asIntOf, run_underlying hu, h0, h2, h, sizeOf, typeInfo, hi, hs, pt, add_add']
/-- A store into a box that is a list of elements. -/
theorem ms_setb {α : Type} [Dat α] {t e g k sz : Nat} {ag : Bool} {x y : Operand} {u : Value} {L : List α} (i j : Nat) (v : α) [hl : LD P t sz ag] (ho : o.op = .store t x y) (hx : opd E x = some (pt (ga g) k)) (hy : opd E y = some u) (hi : H[i]? = some (.box g e (fl L)))
    (hk : k = j * Dat.sz α) (hsz : Dat.sz α = sz) (hv : u.cells = (Dat.cells v).toArray) (h1 : (Dat.cells v).all (·.oneCell') = true) (hj : j < L.length) :
    MStep P E H G o (fun _ => True) (fun _ => undef) (fun _ => H.set i (.box g e (fl (L.set j v)))) (fun _ => G) := by
  have hle : j * Dat.sz α + Dat.sz α ≤ (fl L).length := by
    rw [fl_len]
    have : (j + 1) * Dat.sz α ≤ L.length * Dat.sz α := Nat.mul_le_mul_right _ hj
    rw [Nat.add_mul] at this; omega
  have := ms_store (P := P) (hl := hl) (G := G) (k := k) i ho hx hy hv (by rw [Dat.len, hsz]) h1 hi (by rw [Nat.ble_eq, Dat.len, hk]; exact hle)
  rwa [hk, putC_fl L j v hj] at this
/-- Words as naturals. -/
theorem wrapU32 (n : Nat) : IntKind.u32.wrap (n : Int) = ((n % 4294967296 : Nat) : Int) := by rw [IntKind.wrap_u32]; omega
theorem wrapU8 (n : Nat) : IntKind.u8.wrap (n : Int) = ((n % 256 : Nat) : Int) := by rw [IntKind.wrap_u8]; omega
theorem ps_addU {x y : Operand} {t t' : TypeId} {m n : Nat} (ho : o.op = .binOp .add t x y t') (hx : opd E x = some (.int .u32 (m : Int))) (hy : opd E y = some (.int .u32 (n : Int))) : PStep P E H G o (.int .u32 (((m + n) % 4294967296 : Nat) : Int)) :=
  ps_int ho hx hy (by rw [intOp, show (m : Int) + n = ((m + n : Nat) : Int) by omega, wrapU32])
def kOk (k : IntKind) (m : Nat) : Prop := k = .u32 ∧ m < 4294967296 ∨ k = .i64 ∧ m < 9223372036854775808 ∨ k = .u8 ∧ m < 256 ∨ k = .u64 ∧ m < 18446744073709551616
theorem kOk.xor {k : IntKind} {m n : Nat} (hm : kOk k m) (hn : kOk k n) : k.wrap ((BitVec.ofInt k.bits (m : Int) ^^^ BitVec.ofInt k.bits (n : Int)).toNat : Int) = ((m ^^^ n : Nat) : Int) := by
  rcases hm with ⟨rfl, hm⟩ | ⟨rfl, hm⟩ | ⟨rfl, hm⟩ | ⟨rfl, hm⟩ <;> rcases hn with ⟨e, hn⟩ | ⟨e, hn⟩ | ⟨e, hn⟩ | ⟨e, hn⟩ <;> first | cases e | skip
  · exact u32_xor_nat m n hm hn
  · have hx : m ^^^ n < 2 ^ 63 := Nat.xor_lt_two_pow (by omega) (by omega)
    show IntKind.i64.wrap ((BitVec.ofInt 64 (m : Int) ^^^ BitVec.ofInt 64 (n : Int)).toNat : Int) = _
    rw [BitVec.toNat_xor, ofInt_u64 m (by omega), ofInt_u64 n (by omega), IntKind.wrap_i64]
    omega
  · exact u8_xor_nat m n hm hn
  · exact u64_xor_nat m n hm hn
theorem kOk.or {k : IntKind} {m n : Nat} (hm : kOk k m) (hn : kOk k n) : k.wrap ((BitVec.ofInt k.bits (m : Int) ||| BitVec.ofInt k.bits (n : Int)).toNat : Int) = ((m ||| n : Nat) : Int) := by
  rcases hm with ⟨rfl, hm⟩ | ⟨rfl, hm⟩ | ⟨rfl, hm⟩ | ⟨rfl, hm⟩ <;> rcases hn with ⟨e, hn⟩ | ⟨e, hn⟩ | ⟨e, hn⟩ | ⟨e, hn⟩ <;> first | cases e | skip
  · exact u32_or_nat m n hm hn
  · have hx : m ||| n < 2 ^ 63 := Nat.or_lt_two_pow (by omega) (by omega)
    show IntKind.i64.wrap ((BitVec.ofInt 64 (m : Int) ||| BitVec.ofInt 64 (n : Int)).toNat : Int) = _
    rw [BitVec.toNat_or, ofInt_u64 m (by omega), ofInt_u64 n (by omega), IntKind.wrap_i64]
    omega
  · exact u8_or_nat m n hm hn
  · exact u64_or_nat m n hm hn
theorem kOk.and {k : IntKind} {m n : Nat} (hm : kOk k m) (hn : kOk k n) : k.wrap ((BitVec.ofInt k.bits (m : Int) &&& BitVec.ofInt k.bits (n : Int)).toNat : Int) = ((m &&& n : Nat) : Int) := by
  rcases hm with ⟨rfl, hm⟩ | ⟨rfl, hm⟩ | ⟨rfl, hm⟩ | ⟨rfl, hm⟩ <;> rcases hn with ⟨e, hn⟩ | ⟨e, hn⟩ | ⟨e, hn⟩ | ⟨e, hn⟩ <;> first | cases e | skip
  · exact u32_and_nat m n hm hn
  · have hx : m &&& n < 2 ^ 63 := Nat.and_lt_two_pow m (by omega)
    show IntKind.i64.wrap ((BitVec.ofInt 64 (m : Int) &&& BitVec.ofInt 64 (n : Int)).toNat : Int) = _
    rw [BitVec.toNat_and, ofInt_u64 m (by omega), ofInt_u64 n (by omega), IntKind.wrap_i64]
    omega
  · exact u8_and_nat m n hm hn
  · exact u64_and_nat m n hm hn
theorem ps_xorN {x y : Operand} {t t' : TypeId} {k : IntKind} {m n : Nat} (ho : o.op = .binOp .xor t x y t') (hx : opd E x = some (.int k (m : Int))) (hy : opd E y = some (.int k (n : Int))) (hm : kOk k m) (hn : kOk k n) : PStep P E H G o (.int k ((m ^^^ n : Nat) : Int)) :=
  ps_int ho hx hy (by rw [intOp, hm.xor hn])
theorem ps_orN {x y : Operand} {t t' : TypeId} {k : IntKind} {m n : Nat} (ho : o.op = .binOp .or t x y t') (hx : opd E x = some (.int k (m : Int))) (hy : opd E y = some (.int k (n : Int))) (hm : kOk k m) (hn : kOk k n) : PStep P E H G o (.int k ((m ||| n : Nat) : Int)) :=
  ps_int ho hx hy (by rw [intOp, hm.or hn])
theorem ps_andN {x y : Operand} {t t' : TypeId} {k : IntKind} {m n : Nat} (ho : o.op = .binOp .and t x y t') (hx : opd E x = some (.int k (m : Int))) (hy : opd E y = some (.int k (n : Int))) (hm : kOk k m) (hn : kOk k n) : PStep P E H G o (.int k ((m &&& n : Nat) : Int)) :=
  ps_int ho hx hy (by rw [intOp, hm.and hn])
theorem ps_shlU {x y : Operand} {t t' : TypeId} {k' : IntKind} {m s : Nat} (ho : o.op = .binOp .shl t x y t') (hx : opd E x = some (.int .u32 (m : Int))) (hy : opd E y = some (.int k' (s : Int))) (hs : s < 32) : PStep P E H G o (.int .u32 ((m * 2 ^ s % 4294967296 : Nat) : Int)) := by
  have := ps_shl (P := P) (H := H) (G := G) ho hx hy ⟨by omega, show (s : Int) < ((32 : Nat) : Int) by omega⟩
  rw [show ((s : Int)).toNat = s by omega, show ((m : Int) * 2 ^ s) = ((m * 2 ^ s : Nat) : Int) by push_cast; rfl, wrapU32] at this
  exact this
theorem ps_shlI {x y : Operand} {t t' : TypeId} {k' : IntKind} {m s : Nat} (ho : o.op = .binOp .shl t x y t') (hx : opd E x = some (.int .i64 (m : Int))) (hy : opd E y = some (.int k' (s : Int))) (hs : s < 64) (hm : m * 2 ^ s < 9223372036854775808) : PStep P E H G o (.int .i64 ((m * 2 ^ s : Nat) : Int)) := by
  have := ps_shl (P := P) (H := H) (G := G) ho hx hy ⟨by omega, show (s : Int) < ((64 : Nat) : Int) by omega⟩
  rw [show ((s : Int)).toNat = s by omega, show ((m : Int) * 2 ^ s) = ((m * 2 ^ s : Nat) : Int) by push_cast; rfl, IntWalk.i64_in _ (by omega)] at this
  exact this
theorem ps_shrN {x y : Operand} {t t' : TypeId} {k k' : IntKind} {m s : Nat} (ho : o.op = .binOp .shr t x y t') (hx : opd E x = some (.int k (m : Int))) (hy : opd E y = some (.int k' (s : Int))) (hs : s < k.bits) : PStep P E H G o (.int k ((m / 2 ^ s : Nat) : Int)) := by
  have := ps_shr (P := P) (H := H) (G := G) ho hx hy ⟨by omega, by omega⟩
  rw [show ((s : Int)).toNat = s by omega, Int.fdiv_eq_ediv_of_nonneg _ (Int.le_of_lt (Int.pow_pos (by decide)))] at this
  have e : ((m / 2 ^ s : Nat) : Int) = (m : Int) / 2 ^ s := by push_cast; rfl
  rw [e]; exact this
theorem ps_conv32 {x : Operand} {s t : TypeId} {k' : IntKind} {n : Nat} [hk : IK P t .u32] [hk' : IK P s k'] (ho : o.op = .convert s t x) (hx : opd E x = some (.int k' (n : Int))) : PStep P E H G o (.int .u32 ((n % 4294967296 : Nat) : Int)) := by
  rw [← wrapU32]; exact ps_conv ho hx
theorem ps_conv8 {x : Operand} {s t : TypeId} {k' : IntKind} {n : Nat} [hk : IK P t .u8] [hk' : IK P s k'] (ho : o.op = .convert s t x) (hx : opd E x = some (.int k' (n : Int))) : PStep P E H G o (.int .u8 ((n % 256 : Nat) : Int)) := by
  rw [← wrapU8]; exact ps_conv ho hx
theorem ofNat_toNat8 (n : Nat) : ((UInt8.ofNat n).toNat : Int) = ((n % 256 : Nat) : Int) := by simp
theorem ps_convB {x : Operand} {s t : TypeId} {k' : IntKind} {n : Nat} [hk : IK P t .u8] [hk' : IK P s k'] (ho : o.op = .convert s t x) (hx : opd E x = some (.int k' (n : Int))) : PStep P E H G o (.int .u8 ((UInt8.ofNat n).toNat : Int)) := by
  rw [ofNat_toNat8]; exact ps_conv8 ho hx
/-- The same of a number that was cut to its lowest byte. -/
theorem ps_convM {x : Operand} {s t : TypeId} {k' : IntKind} {n : Nat} [hk : IK P t .u8] [hk' : IK P s k'] (ho : o.op = .convert s t x) (hx : opd E x = some (.int k' ((n % 256 : Nat) : Int))) : PStep P E H G o (.int .u8 ((UInt8.ofNat n).toNat : Int)) := by
  rw [ofNat_toNat8]
  have := ps_conv8 (P := P) (H := H) (G := G) ho hx
  rwa [Nat.mod_mod] at this
theorem ms_make0 {t e sz bytes : Nat} {x y : Operand} {n : Nat} {k k' : IntKind} {z : List Value} [ht : EL P t e sz bytes] [hz : ZV P e z] (ho : o.op = .makeSlice t x y) (hx : opd E x = some (.int k ((0 : Nat) : Int))) (hy : opd E y = some (.int k' (n : Int))) (hb : bytes * n ≤ 140737488355328) (hn : n ≤ 140737488355328) :
    MStep P E H G o (fun _ => True) (fun y => .slice (ga (y 0).c) 0 n) (fun y => .row e sz (ga (y 0).c) 0 n [] :: H) (fun _ => G) := ms_of (v0 := undef) fun N base w0 a w he hw => by
  obtain ⟨hu, _, i, zz, hi, hzz, hs, hby, hzc⟩ := ht.h
  have hb' : (i.bytes : Int) * (n : Int) ≤ 281474976710656 := by
    have h : ((i.bytes * n : Nat) : Int) ≤ 281474976710656 := by rw [hby]; omega
    rwa [Int.natCast_mul] at h
  have hr := run_make (P := P) w t e i zz hu hi hzz k k' ((0 : Nat) : Int) (n : Int) (by omega) (by omega) hb' (by omega)
  simp only [Int.toNat_natCast, hs] at hr
  refine ⟨mkY none w.heap.size w, w.alloc (.cells (madeCells zz.cells (n * sz)) e), trivial, ?_, ?_⟩
  · simp only [execOp, ho, he.eval hx, he.eval hy, Sem.run_bind, hr, Result.andThen_ok, Sem.run_pure]; rfl
  · refine hw.grow (Hn := [.row e sz (ga w.heap.size) 0 n []]) (Gn := []) ((Below.refl _ _).alloc (Nat.le_refl _) _) (NewOk.one ⟨by simp, .inr ⟨w.heap.size, n, _, rfl, Nat.le_refl _, heap_alloc_new _ _, Nat.zero_le _, by simp only [maxLen]; omega, ?_, by simp⟩⟩)
    rw [size_madeCells]
/-- An element of an array that is a value, of one cell. -/
theorem ps_indexV {α : Type} [Dat α] {x y : Operand} {t n e i : Nat} {L : List α} {u : Value} {q : IntKind} [ht : AR P t n e 1] [hl : LD P e 1 false] (ho : o.op = .index t x y) (hx : opd E x = some (.agg (fl L).toArray)) (hy : opd E y = some (.int q (i : Int))) (h : i < n) (hn : L.length = n) (h1 : Dat.sz α = 1) (hu : Dat.cells (nth L i) = [u]) : PStep P E H G o u := fun N base w0 a w he hw => by
  obtain ⟨hut, hi, _⟩ := ht.h
  obtain ⟨inf, hi, hs⟩ := Option.map_eq_some_iff.1 hi
  have h0 : (0 : Int) ≤ (i : Int) ∧ (i : Int) < (n : Int) := by omega
  have hc : (fl L)[i]? = some u := by
    have := fl_at L i 0 (by omega) (by omega)
    rw [h1, hu] at this
    simpa using this
  have hag : (isAgg e).run P w = .ok false w := by
    have h := hl.h
    unfold ldB at h
    split at h
    · exact absurd (congrArg (fun q => q.map Prod.snd) h) (by simp)
    · exact absurd (congrArg (fun q => q.map Prod.snd) h) (by simp)
    · rename_i d i h1 h2 hu hi
      simp only [isAgg, Sem.run_bind, run_underlying hu, Result.andThen_ok]
      cases d <;> first | rfl | exact absurd rfl (h1 _) | exact absurd rfl (h2 _ _)
    · cases h
  simp [execOp, ho, he.eval hx, he.eval hy, Instr.index, asIntOf, run_underlying hut, h0, h, sizeOf, typeInfo, hi, hs, part, hag, hc]
/-- A value told otherwise. -/
theorem ps_cast {v v' : Value} (h : PStep P E H G o v) (e : v = v') : PStep P E H G o v' := e ▸ h
theorem ps_subU64 {x y : Operand} {t t' : TypeId} {m n : Nat} (ho : o.op = .binOp .sub t x y t') (hx : opd E x = some (.int .u64 (m : Int))) (hy : opd E y = some (.int .u64 (n : Int))) (h : n ≤ m) (hm : m < 18446744073709551616) : PStep P E H G o (.int .u64 ((m - n : Nat) : Int)) :=
  ps_int ho hx hy (by rw [intOp, IntWalk.u64_in _ (by omega), show (m : Int) - n = ((m - n : Nat) : Int) by omega])
theorem ps_shlV {x y : Operand} {t t' : TypeId} {k' : IntKind} {m s : Nat} (ho : o.op = .binOp .shl t x y t') (hx : opd E x = some (.int .u32 (m : Int))) (hy : opd E y = some (.int k' (s : Int))) (hs : s < 32) (hm : m * 2 ^ s < 4294967296) : PStep P E H G o (.int .u32 ((m * 2 ^ s : Nat) : Int)) := by
  have := ps_shlU (P := P) (H := H) (G := G) ho hx hy hs
  rwa [Nat.mod_eq_of_lt hm] at this
/-- A whole array: looked at, stored. -/
theorem ps_loadsB {x : Operand} {t g e sz : Nat} {cs : List Value} (q : Nat) [hl : LD P t sz true] (ho : o.op = .load t x) (hx : opd E x = some (pt (ga g) 0)) (hi : H[q]? = some (.box g e cs)) (hn : cs.length = sz) (hz : Nat.blt 0 sz = true) : PStep P E H G o (.agg cs.toArray) :=
  ps_loads ho hx (rds_box q hi) (by rw [List.drop_zero, List.take_of_length_le (by omega)]) hn (by simpa [Nat.blt_eq] using hz)
theorem ms_storeB {x y : Operand} {t g e sz : Nat} {cs vs : List Value} (i : Nat) [hl : LD P t sz true] (ho : o.op = .store t x y) (hx : opd E x = some (pt (ga g) 0)) (hy : opd E y = some (.agg vs.toArray)) (hi : H[i]? = some (.box g e cs)) (hn : vs.length = sz) (hc : cs.length = sz) (h1 : ∀ u ∈ vs, u.oneCell' = true) :
    MStep P E H G o (fun _ => True) (fun _ => undef) (fun _ => H.set i (.box g e vs)) (fun _ => G) := by
  have := ms_store (P := P) (hl := hl) (G := G) (k := 0) (vs := vs) i ho hx hy rfl hn (by simpa using h1) hi (by rw [Nat.ble_eq]; omega)
  have e : putC cs 0 vs = vs := by unfold putC; rw [List.take_zero, List.nil_append, List.drop_of_length_le (by omega), List.append_nil]
  rwa [e] at this
/-- An element of an array in a box, of one cell. -/
theorem ps_loadA {α : Type} [Dat α] {x : Operand} {t g e i : Nat} {L : List α} {u : Value} (q : Nat) [hl : LD P t 1 false] (ho : o.op = .load t x) (hx : opd E x = some (pt (ga g) (0 + i * 1))) (hi : H[q]? = some (.box g e (fl L))) (hj : i < L.length) (hs : Dat.sz α = 1) (hu : Dat.cells (nth L i) = [u]) : PStep P E H G o u :=
  ps_load ho hx (Rds.cell (rds_box q hi) (by
    have := fl_at L i 0 hj (by omega)
    rw [hs, hu] at this
    rw [Nat.zero_add]; exact this))
theorem ms_setA {α : Type} [Dat α] {t e g j : Nat} {x y : Operand} {u : Value} {L : List α} (i : Nat) (v : α) [hl : LD P t 1 false] (ho : o.op = .store t x y) (hx : opd E x = some (pt (ga g) (0 + j * 1))) (hy : opd E y = some u) (hi : H[i]? = some (.box g e (fl L))) (hs : Dat.sz α = 1) (hu : Dat.cells v = [u]) (hc : u.cells = #[u]) (h1 : u.oneCell' = true) (hj : j < L.length) :
    MStep P E H G o (fun _ => True) (fun _ => undef) (fun _ => H.set i (.box g e (fl (L.set j v)))) (fun _ => G) :=
  ms_setb i j v ho hx hy hi (by rw [hs, Nat.zero_add]) hs (by rw [hc, hu]) (by rw [hu]; simp [h1]) hj
/-- The same of a row. -/
theorem ps_loadR {α : Type} [Dat α] {x : Operand} {t e sz n c i : Nat} {A : Option Addr} {L : List α} {u : Value} (q : Nat) [hl : LD P t 1 false] (ho : o.op = .load t x) (hx : opd E x = some (pt A (i * 1))) (hi : H[q]? = some (.row e sz A n c (fl L))) (hj : i < L.length) (hs : Dat.sz α = 1) (hu : Dat.cells (nth L i) = [u]) : PStep P E H G o u :=
  ps_load ho hx (Rds.cell (rds_row q hi) (by
    have := fl_at L i 0 hj (by omega)
    rw [hs, hu] at this
    exact this))
theorem ms_setR {α : Type} [Dat α] {t e sz n c j : Nat} {A : Option Addr} {x y : Operand} {u : Value} {L : List α} (i : Nat) (v : α) [hl : LD P t 1 false] (ho : o.op = .store t x y) (hx : opd E x = some (pt A (j * 1))) (hy : opd E y = some u) (hi : H[i]? = some (.row e sz A n c (fl L))) (hs : Dat.sz α = 1) (hu : Dat.cells v = [u]) (hc : u.cells = #[u]) (h1 : u.oneCell' = true) (hj : j < L.length) :
    MStep P E H G o (fun _ => True) (fun _ => undef) (fun _ => H.set i (.row e sz A n c (fl (L.set j v)))) (fun _ => G) :=
  ms_setw i j v ho hx hy hi (by rw [hs]) hs rfl (by rw [hc, hu]) (by rw [hu]; simp [h1]) hj
end
theorem WOk.cap {base : Nat} {w0 w : World} {H : List HObj} {G : List World} (hw : WOk base w0 H G w) {e sz n c : Nat} {A : Option Addr} {us : List Value} (i : Nat) (hi : H[i]? = some (.row e sz A n c us)) : n ≤ c := by
  obtain ⟨_, ⟨hv, hn⟩ | ⟨g, cap, cur, hv, _, _, hle, _⟩⟩ := hw.own _ (List.mem_of_getElem? hi)
  · omega
  · injection hv with _ _ h3; omega
theorem set_perm {α : Type} : ∀ (l : List α) (i : Nat) (x : α), i < l.length → (x :: l.eraseIdx i).Perm (l.set i x)
  | [], i, x, h => by simp at h
  | y :: l, 0, x, h => by simp
  | y :: l, i + 1, x, h => by
    have ih := set_perm l i x (by simpa using h)
    simp only [List.eraseIdx_cons_succ, List.set_cons_succ]
    exact (List.Perm.swap y x _).trans (List.Perm.cons y ih)
/-- A call that writes to one own object, which keeps its place. -/
theorem ms_wr {P : Program} {E : Env} {H : List HObj} {G : List World} {o : Oper} {F : Ys → Prop} {v : Ys → Value} {f : FuncId} {cl : Operand} {args : Array Operand} {tys : Array TypeId} {vs : List Value} {x : HObj} {x' : Ys → HObj} (r : Nat) (hi : H[r]? = some x) [hf : FN P f] (ho : o.op = .call { callee := .value cl, args := args, argTypes := tys }) (hcl : opd E cl = some (.func (.func f) #[] #[])) (ha : args.toList.mapM (opd E) = some vs)
    (hc : ∀ base w0 w, WOk base w0 (x :: H.eraseIdx r) G w → Calls P f vs.toArray w (fun e w' => ∃ y, e = .returned (v y) ∧ F y ∧ WOk base w0 (x' y :: H.eraseIdx r) G w')) :
    MStep P E H G o F v (fun y => H.set r (x' y)) (fun _ => G) := fun N base w0 a w Q K he hw hK =>
  ms_callW (H' := fun y => x' y :: H.eraseIdx r) (G' := fun _ => G) (fun _ _ _ h => h.front r hi) ho hcl ha hc N base w0 a w Q K he hw (fun y w' hF hw' => hK y w' hF (hw'.perm (set_perm H r (x' y) (List.getElem?_eq_some_iff.1 hi).1)))
theorem ms_appN {P : Program} {E : Env} {H : List HObj} {G : List World} {o : Oper} {α : Type} [Dat α] [OneC α] {t e sz bytes c c2 n m : Nat} {A A2 : Option Addr} {x y : Operand} (L M : List α) (i : Nat) [ht : EL P t e sz bytes] (ho : o.op = .call { callee := .builtin .append, args := #[x, y], argTypes := #[t, t] })
    (hx : opd E x = some (.slice A n c)) (hy : opd E y = some (.slice A2 m c2)) (hi : H[i]? = some (.row e sz A n c (fl L))) (hr : Rds H G A2 (fl M)) (hs : Dat.sz α = sz) (hn : L.length = n) (hm : M.length = m)
    (hb : (n + m) * bytes ≤ 140737488355328) (hm2 : n + m ≤ 140737488355328) :
    MStep P E H G o (fun _ => True) (fun y => .slice (y 0).A (n + m) (y 0).c) (fun y => H.set i (.row e sz (y 0).A (n + m) (y 0).c (fl (L ++ M)))) (fun _ => G) := by
  subst hn hm
  exact ms_appF i ho hx hy hi hr hs hb hm2
theorem ms_app0n {P : Program} {E : Env} {H : List HObj} {G : List World} {o : Oper} {α : Type} [Dat α] [OneC α] {t e sz bytes c c2 m : Nat} {A A2 : Option Addr} {x y : Operand} (M : List α) (i : Nat) [ht : EL P t e sz bytes] (ho : o.op = .call { callee := .builtin .append, args := #[x, y], argTypes := #[t, t] })
    (hx : opd E x = some (.slice A 0 c)) (hy : opd E y = some (.slice A2 m c2)) (hi : H[i]? = some (.row e sz A 0 c [])) (hr : Rds H G A2 (fl M)) (hs : Dat.sz α = sz) (hm : M.length = m)
    (hb : m * bytes ≤ 140737488355328) (hm2 : m ≤ 140737488355328) :
    MStep P E H G o (fun _ => True) (fun y => .slice (y 0).A m (y 0).c) (fun y => H.set i (.row e sz (y 0).A m (y 0).c (fl M))) (fun _ => G) := by
  subst hm
  exact ms_app0 i ho hx hy hi hr hs hb hm2
end Go.Proofs.Ytfcnimglcialbaa
