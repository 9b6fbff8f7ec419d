import Derived.Test.YtgefikehhcgdnaaGreatDoorMix
import Derived.Test.YtgefikehhcgdnaaGreatDoorProg
import Derived.KernelRfl
/- The types of the program that the walks name. No condition. -/
namespace Go.SL
open Go.Proofs
set_option maxRecDepth 10000
theorem mixed : (Tryz.prog).follows .mixedOrders = true := by kernel_rfl
theorem ty3 : Ty Tryz.prog 3 (.int .i64) 1 8 (.int .i64 0) := ⟨by kernel_rfl, by kernel_rfl, by kernel_rfl, by kernel_rfl⟩
theorem ty4 : Ty Tryz.prog 4 (.bool) 1 1 (.bool false) := ⟨by kernel_rfl, by kernel_rfl, by kernel_rfl, by kernel_rfl⟩
theorem ty5 : Ty Tryz.prog 5 (.int .u8) 1 1 (.int .u8 0) := ⟨by kernel_rfl, by kernel_rfl, by kernel_rfl, by kernel_rfl⟩
theorem ty9 : Ty Tryz.prog 9 (.string) 1 16 (.string ⟨#[]⟩) := ⟨by kernel_rfl, by kernel_rfl, by kernel_rfl, by kernel_rfl⟩
theorem ty22 : Ty Tryz.prog 22 (.slice 5) 1 24 (.slice none 0 0) := ⟨by kernel_rfl, by kernel_rfl, by kernel_rfl, by kernel_rfl⟩
theorem ty23 : Ty Tryz.prog 23 (.pointer 63) 1 8 (.pointer none) := ⟨by kernel_rfl, by kernel_rfl, by kernel_rfl, by kernel_rfl⟩
theorem ty27 : Ty Tryz.prog 27 (.slice 57) 1 24 (.slice none 0 0) := ⟨by kernel_rfl, by kernel_rfl, by kernel_rfl, by kernel_rfl⟩
def fs29 : Array Field := #[⟨"Prefix", 9, 0, false, "", "", 0⟩, ⟨"Code", 3, 1, false, "", "", 16⟩, ⟨"Fields", 27, 2, false, "", "", 24⟩, ⟨"Body", 22, 3, false, "", "", 48⟩, ⟨"Wait", 3, 4, false, "", "", 72⟩, ⟨"Cut", 3, 5, false, "", "", 80⟩]
theorem ty29 : Ty Tryz.prog 29 (.struct fs29) 6 88 (.agg #[.string ⟨#[]⟩, .int .i64 0, .slice none 0 0, .slice none 0 0, .int .i64 0, .int .i64 0]) := ⟨by kernel_rfl, by kernel_rfl, by kernel_rfl, by kernel_rfl⟩
theorem ty30 : Ty Tryz.prog 30 (.slice 29) 1 24 (.slice none 0 0) := ⟨by kernel_rfl, by kernel_rfl, by kernel_rfl, by kernel_rfl⟩
def fs32 : Array Field := #[⟨"Minor", 3, 0, false, "", "", 0⟩, ⟨"Code", 3, 1, false, "", "", 8⟩, ⟨"Reason", 9, 2, false, "", "", 16⟩, ⟨"Fields", 27, 3, false, "", "", 32⟩]
theorem ty32 : Ty Tryz.prog 32 (.struct fs32) 4 56 (.agg #[.int .i64 0, .int .i64 0, .string ⟨#[]⟩, .slice none 0 0]) := ⟨by kernel_rfl, by kernel_rfl, by kernel_rfl, by kernel_rfl⟩
def fs34 : Array Field := #[⟨"Rule", 3, 0, false, "", "", 0⟩, ⟨"Gen", 3, 1, false, "", "", 8⟩, ⟨"Head", 32, 2, false, "", "", 16⟩, ⟨"Body", 22, 6, false, "", "", 72⟩, ⟨"Wait", 3, 7, false, "", "", 96⟩, ⟨"Cut", 3, 8, false, "", "", 104⟩]
theorem ty34 : Ty Tryz.prog 34 (.struct fs34) 9 112 (.agg #[.int .i64 0, .int .i64 0, .int .i64 0, .int .i64 0, .string ⟨#[]⟩, .slice none 0 0, .slice none 0 0, .int .i64 0, .int .i64 0]) := ⟨by kernel_rfl, by kernel_rfl, by kernel_rfl, by kernel_rfl⟩
def fs37 : Array Field := #[⟨"Method", 9, 0, false, "", "", 0⟩, ⟨"Target", 9, 1, false, "", "", 16⟩, ⟨"Minor", 3, 2, false, "", "", 32⟩, ⟨"Fields", 27, 3, false, "", "", 40⟩]
theorem ty37 : Ty Tryz.prog 37 (.struct fs37) 4 64 (.agg #[.string ⟨#[]⟩, .string ⟨#[]⟩, .int .i64 0, .slice none 0 0]) := ⟨by kernel_rfl, by kernel_rfl, by kernel_rfl, by kernel_rfl⟩
theorem ty40 : Ty Tryz.prog 40 (.slice 9) 1 24 (.slice none 0 0) := ⟨by kernel_rfl, by kernel_rfl, by kernel_rfl, by kernel_rfl⟩
def fs57 : Array Field := #[⟨"Name", 9, 0, false, "", "", 0⟩, ⟨"Value", 9, 1, false, "", "", 16⟩]
theorem ty57 : Ty Tryz.prog 57 (.struct fs57) 2 32 (.agg #[.string ⟨#[]⟩, .string ⟨#[]⟩]) := ⟨by kernel_rfl, by kernel_rfl, by kernel_rfl, by kernel_rfl⟩
theorem ty61 : Ty Tryz.prog 61 (.slice 3) 1 24 (.slice none 0 0) := ⟨by kernel_rfl, by kernel_rfl, by kernel_rfl, by kernel_rfl⟩
def fs63 : Array Field := #[⟨"made", 4, 0, false, "", "gatepost/origin", 0⟩, ⟨"rules", 30, 1, false, "", "gatepost/origin", 8⟩, ⟨"gens", 61, 2, false, "", "gatepost/origin", 32⟩]
theorem ty63 : Ty Tryz.prog 63 (.struct fs63) 3 56 (.agg #[.bool false, .slice none 0 0, .slice none 0 0]) := ⟨by kernel_rfl, by kernel_rfl, by kernel_rfl, by kernel_rfl⟩
def fs70 : Array Field := #[⟨"NoStore", 4, 0, false, "", "", 0⟩, ⟨"NoCache", 4, 1, false, "", "", 1⟩, ⟨"Private", 4, 2, false, "", "", 2⟩, ⟨"Public", 4, 3, false, "", "", 3⟩, ⟨"Must", 4, 4, false, "", "", 4⟩, ⟨"Proxy", 4, 5, false, "", "", 5⟩, ⟨"OnlyCached", 4, 6, false, "", "", 6⟩, ⟨"Age", 3, 7, false, "", "", 8⟩, ⟨"Shared", 3, 8, false, "", "", 16⟩, ⟨"While", 3, 9, false, "", "", 24⟩, ⟨"IfError", 3, 10, false, "", "", 32⟩, ⟨"MinFresh", 3, 11, false, "", "", 40⟩, ⟨"MaxStale", 3, 12, false, "", "", 48⟩]
theorem ty70 : Ty Tryz.prog 70 (.struct fs70) 13 56 (.agg #[.bool false, .bool false, .bool false, .bool false, .bool false, .bool false, .bool false, .int .i64 0, .int .i64 0, .int .i64 0, .int .i64 0, .int .i64 0, .int .i64 0]) := ⟨by kernel_rfl, by kernel_rfl, by kernel_rfl, by kernel_rfl⟩
def fs72 : Array Field := #[⟨"Code", 3, 0, false, "", "", 0⟩, ⟨"Control", 70, 1, false, "", "", 8⟩, ⟨"Date", 3, 14, false, "", "", 64⟩, ⟨"Expires", 3, 15, false, "", "", 72⟩, ⟨"Modified", 3, 16, false, "", "", 80⟩, ⟨"Age", 3, 17, false, "", "", 88⟩, ⟨"Asked", 3, 18, false, "", "", 96⟩, ⟨"Got", 3, 19, false, "", "", 104⟩, ⟨"Tag", 9, 20, false, "", "", 112⟩]
theorem ty72 : Ty Tryz.prog 72 (.struct fs72) 21 128 (.agg #[.int .i64 0, .bool false, .bool false, .bool false, .bool false, .bool false, .bool false, .bool false, .int .i64 0, .int .i64 0, .int .i64 0, .int .i64 0, .int .i64 0, .int .i64 0, .int .i64 0, .int .i64 0, .int .i64 0, .int .i64 0, .int .i64 0, .int .i64 0, .string ⟨#[]⟩]) := ⟨by kernel_rfl, by kernel_rfl, by kernel_rfl, by kernel_rfl⟩
def fs89 : Array Field := #[⟨"code", 3, 0, false, "", "gatepost/origin", 0⟩, ⟨"name", 9, 1, false, "", "gatepost/origin", 8⟩]
theorem ty89 : Ty Tryz.prog 89 (.struct fs89) 2 24 (.agg #[.int .i64 0, .string ⟨#[]⟩]) := ⟨by kernel_rfl, by kernel_rfl, by kernel_rfl, by kernel_rfl⟩
theorem ty90 : Ty Tryz.prog 90 (.array 10 89) 20 240 (.agg #[.int .i64 0, .string ⟨#[]⟩, .int .i64 0, .string ⟨#[]⟩, .int .i64 0, .string ⟨#[]⟩, .int .i64 0, .string ⟨#[]⟩, .int .i64 0, .string ⟨#[]⟩, .int .i64 0, .string ⟨#[]⟩, .int .i64 0, .string ⟨#[]⟩, .int .i64 0, .string ⟨#[]⟩, .int .i64 0, .string ⟨#[]⟩, .int .i64 0, .string ⟨#[]⟩]) := ⟨by kernel_rfl, by kernel_rfl, by kernel_rfl, by kernel_rfl⟩
def fs98 : Array Field := #[⟨"kind", 3, 0, false, "", "gatepost/message", 0⟩, ⟨"n", 3, 1, false, "", "gatepost/message", 8⟩]
theorem ty98 : Ty Tryz.prog 98 (.struct fs98) 2 16 (.agg #[.int .i64 0, .int .i64 0]) := ⟨by kernel_rfl, by kernel_rfl, by kernel_rfl, by kernel_rfl⟩
def fs112 : Array Field := #[⟨"sec", 3, 0, false, "", "gatepost/storing", 0⟩, ⟨"there", 4, 1, false, "", "gatepost/storing", 8⟩, ⟨"fine", 4, 2, false, "", "gatepost/storing", 9⟩]
theorem ty112 : Ty Tryz.prog 112 (.struct fs112) 3 16 (.agg #[.int .i64 0, .bool false, .bool false]) := ⟨by kernel_rfl, by kernel_rfl, by kernel_rfl, by kernel_rfl⟩
noncomputable def de181 : TypeDesc := (Tryz.prog.underlying 181).getD .invalid
theorem ag181 : isAggD de181 = false := by kernel_rfl
theorem ty181 : Ty Tryz.prog 181 (de181) 1 8 (.nilFunc) := ⟨by kernel_rfl, by kernel_rfl, by kernel_rfl, by kernel_rfl⟩
theorem ty182 : Ty Tryz.prog 182 (.array 3 181) 3 24 (.agg #[.nilFunc, .nilFunc, .nilFunc]) := ⟨by kernel_rfl, by kernel_rfl, by kernel_rfl, by kernel_rfl⟩
theorem ty183 : Ty Tryz.prog 183 (.pointer 185) 1 8 (.pointer none) := ⟨by kernel_rfl, by kernel_rfl, by kernel_rfl, by kernel_rfl⟩
def fs185 : Array Field := #[⟨"s", 9, 0, false, "", "gatepost/date", 0⟩, ⟨"ok", 4, 1, false, "", "gatepost/date", 16⟩]
theorem ty185 : Ty Tryz.prog 185 (.struct fs185) 2 24 (.agg #[.string ⟨#[]⟩, .bool false]) := ⟨by kernel_rfl, by kernel_rfl, by kernel_rfl, by kernel_rfl⟩
theorem ty264 : Ty Tryz.prog 264 (.array 7 9) 7 112 (.agg #[.string ⟨#[]⟩, .string ⟨#[]⟩, .string ⟨#[]⟩, .string ⟨#[]⟩, .string ⟨#[]⟩, .string ⟨#[]⟩, .string ⟨#[]⟩]) := ⟨by kernel_rfl, by kernel_rfl, by kernel_rfl, by kernel_rfl⟩
theorem ty266 : Ty Tryz.prog 266 (.array 12 9) 12 192 (.agg #[.string ⟨#[]⟩, .string ⟨#[]⟩, .string ⟨#[]⟩, .string ⟨#[]⟩, .string ⟨#[]⟩, .string ⟨#[]⟩, .string ⟨#[]⟩, .string ⟨#[]⟩, .string ⟨#[]⟩, .string ⟨#[]⟩, .string ⟨#[]⟩, .string ⟨#[]⟩]) := ⟨by kernel_rfl, by kernel_rfl, by kernel_rfl, by kernel_rfl⟩
theorem ty272 : Ty Tryz.prog 272 (.int .u64) 1 8 (.int .u64 0) := ⟨by kernel_rfl, by kernel_rfl, by kernel_rfl, by kernel_rfl⟩
theorem ty277 : Ty Tryz.prog 277 (.map 9 4) 1 8 (.map none) := ⟨by kernel_rfl, by kernel_rfl, by kernel_rfl, by kernel_rfl⟩
theorem ty288 : Ty Tryz.prog 288 (.array 20 272) 20 160 (.agg #[.int .u64 0, .int .u64 0, .int .u64 0, .int .u64 0, .int .u64 0, .int .u64 0, .int .u64 0, .int .u64 0, .int .u64 0, .int .u64 0, .int .u64 0, .int .u64 0, .int .u64 0, .int .u64 0, .int .u64 0, .int .u64 0, .int .u64 0, .int .u64 0, .int .u64 0, .int .u64 0]) := ⟨by kernel_rfl, by kernel_rfl, by kernel_rfl, by kernel_rfl⟩
theorem ty294 : Ty Tryz.prog 294 (.array 15 5) 15 15 (.agg #[.int .u8 0, .int .u8 0, .int .u8 0, .int .u8 0, .int .u8 0, .int .u8 0, .int .u8 0, .int .u8 0, .int .u8 0, .int .u8 0, .int .u8 0, .int .u8 0, .int .u8 0, .int .u8 0, .int .u8 0]) := ⟨by kernel_rfl, by kernel_rfl, by kernel_rfl, by kernel_rfl⟩
theorem fo29_0 : Fo Tryz.prog 29 0 0 1 false := ⟨fs29, _, _, _, _, ty29.u, rfl, rfl, ty9, rfl⟩
theorem fo29_1 : Fo Tryz.prog 29 1 1 1 false := ⟨fs29, _, _, _, _, ty29.u, rfl, rfl, ty3, rfl⟩
theorem fo29_2 : Fo Tryz.prog 29 2 2 1 false := ⟨fs29, _, _, _, _, ty29.u, rfl, rfl, ty27, rfl⟩
theorem fo29_3 : Fo Tryz.prog 29 3 3 1 false := ⟨fs29, _, _, _, _, ty29.u, rfl, rfl, ty22, rfl⟩
theorem fo29_4 : Fo Tryz.prog 29 4 4 1 false := ⟨fs29, _, _, _, _, ty29.u, rfl, rfl, ty3, rfl⟩
theorem fo29_5 : Fo Tryz.prog 29 5 5 1 false := ⟨fs29, _, _, _, _, ty29.u, rfl, rfl, ty3, rfl⟩
theorem fo32_0 : Fo Tryz.prog 32 0 0 1 false := ⟨fs32, _, _, _, _, ty32.u, rfl, rfl, ty3, rfl⟩
theorem fo32_1 : Fo Tryz.prog 32 1 1 1 false := ⟨fs32, _, _, _, _, ty32.u, rfl, rfl, ty3, rfl⟩
theorem fo32_2 : Fo Tryz.prog 32 2 2 1 false := ⟨fs32, _, _, _, _, ty32.u, rfl, rfl, ty9, rfl⟩
theorem fo32_3 : Fo Tryz.prog 32 3 3 1 false := ⟨fs32, _, _, _, _, ty32.u, rfl, rfl, ty27, rfl⟩
theorem fo34_0 : Fo Tryz.prog 34 0 0 1 false := ⟨fs34, _, _, _, _, ty34.u, rfl, rfl, ty3, rfl⟩
theorem fo34_1 : Fo Tryz.prog 34 1 1 1 false := ⟨fs34, _, _, _, _, ty34.u, rfl, rfl, ty3, rfl⟩
theorem fo34_2 : Fo Tryz.prog 34 2 2 4 true := ⟨fs34, _, _, _, _, ty34.u, rfl, rfl, ty32, rfl⟩
theorem fo34_3 : Fo Tryz.prog 34 3 6 1 false := ⟨fs34, _, _, _, _, ty34.u, rfl, rfl, ty22, rfl⟩
theorem fo34_4 : Fo Tryz.prog 34 4 7 1 false := ⟨fs34, _, _, _, _, ty34.u, rfl, rfl, ty3, rfl⟩
theorem fo34_5 : Fo Tryz.prog 34 5 8 1 false := ⟨fs34, _, _, _, _, ty34.u, rfl, rfl, ty3, rfl⟩
theorem fo37_0 : Fo Tryz.prog 37 0 0 1 false := ⟨fs37, _, _, _, _, ty37.u, rfl, rfl, ty9, rfl⟩
theorem fo37_1 : Fo Tryz.prog 37 1 1 1 false := ⟨fs37, _, _, _, _, ty37.u, rfl, rfl, ty9, rfl⟩
theorem fo37_3 : Fo Tryz.prog 37 3 3 1 false := ⟨fs37, _, _, _, _, ty37.u, rfl, rfl, ty27, rfl⟩
theorem fo57_0 : Fo Tryz.prog 57 0 0 1 false := ⟨fs57, _, _, _, _, ty57.u, rfl, rfl, ty9, rfl⟩
theorem fo57_1 : Fo Tryz.prog 57 1 1 1 false := ⟨fs57, _, _, _, _, ty57.u, rfl, rfl, ty9, rfl⟩
theorem fo63_0 : Fo Tryz.prog 63 0 0 1 false := ⟨fs63, _, _, _, _, ty63.u, rfl, rfl, ty4, rfl⟩
theorem fo63_1 : Fo Tryz.prog 63 1 1 1 false := ⟨fs63, _, _, _, _, ty63.u, rfl, rfl, ty30, rfl⟩
theorem fo63_2 : Fo Tryz.prog 63 2 2 1 false := ⟨fs63, _, _, _, _, ty63.u, rfl, rfl, ty61, rfl⟩
theorem fo70_1 : Fo Tryz.prog 70 1 1 1 false := ⟨fs70, _, _, _, _, ty70.u, rfl, rfl, ty4, rfl⟩
theorem fo72_2 : Fo Tryz.prog 72 2 14 1 false := ⟨fs72, _, _, _, _, ty72.u, rfl, rfl, ty3, rfl⟩
theorem fo72_4 : Fo Tryz.prog 72 4 16 1 false := ⟨fs72, _, _, _, _, ty72.u, rfl, rfl, ty3, rfl⟩
theorem fo72_8 : Fo Tryz.prog 72 8 20 1 false := ⟨fs72, _, _, _, _, ty72.u, rfl, rfl, ty9, rfl⟩
theorem fo89_0 : Fo Tryz.prog 89 0 0 1 false := ⟨fs89, _, _, _, _, ty89.u, rfl, rfl, ty3, rfl⟩
theorem fo89_1 : Fo Tryz.prog 89 1 1 1 false := ⟨fs89, _, _, _, _, ty89.u, rfl, rfl, ty9, rfl⟩
theorem fo98_0 : Fo Tryz.prog 98 0 0 1 false := ⟨fs98, _, _, _, _, ty98.u, rfl, rfl, ty3, rfl⟩
theorem fo98_1 : Fo Tryz.prog 98 1 1 1 false := ⟨fs98, _, _, _, _, ty98.u, rfl, rfl, ty3, rfl⟩
theorem fo112_2 : Fo Tryz.prog 112 2 2 1 false := ⟨fs112, _, _, _, _, ty112.u, rfl, rfl, ty4, rfl⟩
theorem fo185_0 : Fo Tryz.prog 185 0 0 1 false := ⟨fs185, _, _, _, _, ty185.u, rfl, rfl, ty9, rfl⟩
theorem fo185_1 : Fo Tryz.prog 185 1 1 1 false := ⟨fs185, _, _, _, _, ty185.u, rfl, rfl, ty4, rfl⟩
theorem pl29 : Pl Tryz.prog 29 [(0, 1), (1, 1), (2, 1), (3, 1), (4, 1), (5, 1)] [.string ⟨#[]⟩, .int .i64 0, .slice none 0 0, .slice none 0 0, .int .i64 0, .int .i64 0] := ⟨fs29, _, ty29.u, fun w => by simp [fs29, ty22.size, ty27.size, ty3.size, ty9.size], fun w => ty29.zero w, rfl⟩
theorem pl32 : Pl Tryz.prog 32 [(0, 1), (1, 1), (2, 1), (3, 1)] [.int .i64 0, .int .i64 0, .string ⟨#[]⟩, .slice none 0 0] := ⟨fs32, _, ty32.u, fun w => by simp [fs32, ty27.size, ty3.size, ty9.size], fun w => ty32.zero w, rfl⟩
theorem pl34 : Pl Tryz.prog 34 [(0, 1), (1, 1), (2, 4), (6, 1), (7, 1), (8, 1)] [.int .i64 0, .int .i64 0, .int .i64 0, .int .i64 0, .string ⟨#[]⟩, .slice none 0 0, .slice none 0 0, .int .i64 0, .int .i64 0] := ⟨fs34, _, ty34.u, fun w => by simp [fs34, ty22.size, ty3.size, ty32.size], fun w => ty34.zero w, rfl⟩
theorem pl37 : Pl Tryz.prog 37 [(0, 1), (1, 1), (2, 1), (3, 1)] [.string ⟨#[]⟩, .string ⟨#[]⟩, .int .i64 0, .slice none 0 0] := ⟨fs37, _, ty37.u, fun w => by simp [fs37, ty27.size, ty3.size, ty9.size], fun w => ty37.zero w, rfl⟩
theorem pl63 : Pl Tryz.prog 63 [(0, 1), (1, 1), (2, 1)] [.bool false, .slice none 0 0, .slice none 0 0] := ⟨fs63, _, ty63.u, fun w => by simp [fs63, ty30.size, ty4.size, ty61.size], fun w => ty63.zero w, rfl⟩
theorem pl70 : Pl Tryz.prog 70 [(0, 1), (1, 1), (2, 1), (3, 1), (4, 1), (5, 1), (6, 1), (7, 1), (8, 1), (9, 1), (10, 1), (11, 1), (12, 1)] [.bool false, .bool false, .bool false, .bool false, .bool false, .bool false, .bool false, .int .i64 0, .int .i64 0, .int .i64 0, .int .i64 0, .int .i64 0, .int .i64 0] := ⟨fs70, _, ty70.u, fun w => by simp [fs70, ty3.size, ty4.size], fun w => ty70.zero w, rfl⟩
theorem pl72 : Pl Tryz.prog 72 [(0, 1), (1, 13), (14, 1), (15, 1), (16, 1), (17, 1), (18, 1), (19, 1), (20, 1)] [.int .i64 0, .bool false, .bool false, .bool false, .bool false, .bool false, .bool false, .bool false, .int .i64 0, .int .i64 0, .int .i64 0, .int .i64 0, .int .i64 0, .int .i64 0, .int .i64 0, .int .i64 0, .int .i64 0, .int .i64 0, .int .i64 0, .int .i64 0, .string ⟨#[]⟩] := ⟨fs72, _, ty72.u, fun w => by simp [fs72, ty3.size, ty70.size, ty9.size], fun w => ty72.zero w, rfl⟩
theorem pl89 : Pl Tryz.prog 89 [(0, 1), (1, 1)] [.int .i64 0, .string ⟨#[]⟩] := ⟨fs89, _, ty89.u, fun w => by simp [fs89, ty3.size, ty9.size], fun w => ty89.zero w, rfl⟩
theorem pl98 : Pl Tryz.prog 98 [(0, 1), (1, 1)] [.int .i64 0, .int .i64 0] := ⟨fs98, _, ty98.u, fun w => by simp [fs98, ty3.size], fun w => ty98.zero w, rfl⟩
theorem pl112 : Pl Tryz.prog 112 [(0, 1), (1, 1), (2, 1)] [.int .i64 0, .bool false, .bool false] := ⟨fs112, _, ty112.u, fun w => by simp [fs112, ty3.size, ty4.size], fun w => ty112.zero w, rfl⟩
theorem pl185 : Pl Tryz.prog 185 [(0, 1), (1, 1)] [.string ⟨#[]⟩, .bool false] := ⟨fs185, _, ty185.u, fun w => by simp [fs185, ty4.size, ty9.size], fun w => ty185.zero w, rfl⟩
end Go.SL
