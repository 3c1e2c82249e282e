/-
  Joined by a program from the texts Types Base.
-/
import Derived.Test.YtlbmbbaefncleaaGreatDoorProg
import Derived.KernelRfl
import Derived.Test.YtlbmbbaefncleaaGreatDoorSe
import Derived.Test.YtlbmbbaefncleaaGreatDoorSd
import Derived.Test.YtlbmbbaefncleaaGreatDoorSf
set_option linter.all false
set_option maxRecDepth 100000
namespace Go.Proofs.YtlbmbbaefncleaaGreatDoor
open Go.Vm
section
instance gtab:GlobTab:=⟨fun g=>match g with | 1=>some [(.u64,1),(.u64,10),(.u64,100),(.u64,1000),(.u64,10000),(.u64,100000),(.u64,1000000),(.u64,10000000),(.u64,100000000),(.u64,1000000000),(.u64,10000000000),(.u64,100000000000),(.u64,1000000000000),(.u64,10000000000000),(.u64,100000000000000),(.u64,1000000000000000),(.u64,10000000000000000),(.u64,100000000000000000),(.u64,1000000000000000000),(.u64,10000000000000000000)] | _=>none⟩
def ty2:TI:=⟨1,8,false,.int .i64 0,.int .i64,[],true⟩
def ty3:TI:=⟨1,8,false,.int .i64 0,.int .i64,[],true⟩
def ty4:TI:=⟨1,1,false,.bool false,.bool,[],true⟩
def ty5:TI:=⟨1,1,false,.int .u8 0,.int .u8,[],true⟩
def ty9:TI:=⟨1,16,false,.str [],.str,[],true⟩
def ty21:TI:=⟨1,4,false,.int .i32 0,.int .i32,[],true⟩
def ty22:TI:=⟨1,24,false,.sl true [] 0,.slice 60,[],false⟩
def ty25:TI:=⟨1,8,false,.int .i64 0,.int .i64,[],true⟩
def ty32:TI:=⟨1,24,false,.sl true [] 0,.slice 3,[],false⟩
def ty33:TI:=⟨1,24,false,.sl true [] 0,.slice 114,[],false⟩
def ty34:TI:=⟨1,24,false,.sl true [] 0,.slice 112,[],false⟩
def ty36:TI:=⟨3,72,true,.agg [.sl true [] 0,.sl true [] 0,.sl true [] 0],.struct [(0,32),(1,33),(2,34)],[],false⟩
def ty42:TI:=⟨3,3,true,.agg [.int .u8 0,.int .u8 0,.int .u8 0],.struct [(0,5),(1,5),(2,5)],[.int .u8,.int .u8,.int .u8],true⟩
def ty44:TI:=⟨4,16,true,.agg [.int .i64 0,.int .u8 0,.int .u8 0,.int .u8 0],.struct [(0,3),(1,42)],[.int .i64,.int .u8,.int .u8,.int .u8],true⟩
def ty47:TI:=⟨1,24,false,.sl true [] 0,.slice 69,[],false⟩
def ty54:TI:=⟨1,24,false,.sl true [] 0,.slice 104,[],false⟩
def ty58:TI:=⟨1,24,false,.sl true [] 0,.slice 65,[],false⟩
def ty60:TI:=⟨4,64,true,.agg [.int .i64 0,.int .i64 0,.sl true [] 0,.sl true [] 0],.struct [(0,3),(1,3),(2,54),(3,58)],[],false⟩
def ty65:TI:=⟨2,16,true,.agg [.int .i64 0,.int .i64 0],.struct [(0,3),(1,3)],[.int .i64,.int .i64],true⟩
def ty69:TI:=⟨3,24,true,.agg [.int .i64 0,.int .i64 0,.int .i64 0],.struct [(0,3),(1,3),(2,3)],[.int .i64,.int .i64,.int .i64],true⟩
def ty70:TI:=⟨1,8,false,.nilp,.ptr 73,[],false⟩
def ty71:TI:=⟨1,24,false,.sl true [] 0,.slice 5,[],false⟩
def ty73:TI:=⟨2,32,true,.agg [.nilp,.sl true [] 0],.struct [(0,70),(1,71)],[],false⟩
def ty74:TI:=⟨1,8,false,.nilf,.func,[],false⟩
def ty78:TI:=⟨1,24,false,.sl true [] 0,.slice 9,[],false⟩
def ty104:TI:=⟨4,24,true,.agg [.int .i64 0,.int .i64 0,.int .u8 0,.int .u8 0],.struct [(0,3),(1,3),(2,5),(3,5)],[.int .i64,.int .i64,.int .u8,.int .u8],true⟩
def ty107:TI:=⟨1,8,false,.nilp,.ptr 183,[],false⟩
def ty109:TI:=⟨1,8,false,.nilf,.func,[],false⟩
def ty112:TI:=⟨2,16,true,.agg [.int .i64 0,.int .i64 0],.struct [(0,3),(1,3)],[.int .i64,.int .i64],true⟩
def ty114:TI:=⟨5,40,true,.agg [.int .i64 0,.int .i64 0,.int .i64 0,.int .i64 0,.bool false],.struct [(0,112),(2,112),(4,4)],[.int .i64,.int .i64,.int .i64,.int .i64,.bool],true⟩
def ty116:TI:=⟨2,24,true,.agg [.str [],.int .i64 0],.struct [(0,9),(1,3)],[],true⟩
def ty120:TI:=⟨1,16,false,.nili,.iface,[],true⟩
def ty124:TI:=⟨1,8,false,.nilp,.ptr 5,[],false⟩
def ty128:TI:=⟨1,8,false,.int .u64 0,.int .u64,[],true⟩
def ty131:TI:=⟨1,8,false,.nilp,.ptr 133,[],false⟩
def ty133:TI:=⟨1,16,true,.agg [.str []],.struct [(0,9)],[],true⟩
def ty135:TI:=⟨1,8,false,.nilf,.func,[],false⟩
def ty136:TI:=⟨1,8,false,.nilp,.ptr 138,[],false⟩
def ty138:TI:=⟨1,16,true,.agg [.str []],.struct [(0,9)],[],true⟩
def ty140:TI:=⟨1,8,false,.nilf,.func,[],false⟩
def ty144:TI:=⟨3,48,true,.agg [.sl true [] 0,.str [],.bool false],.struct [(0,54),(1,9),(2,4)],[],false⟩
def ty147:TI:=⟨3,48,true,.agg [.sl true [] 0,.str [],.bool false],.struct [(0,58),(1,9),(2,4)],[],false⟩
def ty157:TI:=⟨1,24,false,.sl true [] 0,.slice 32,[],false⟩
def ty158:TI:=⟨1,24,false,.sl true [] 0,.slice 4,[],false⟩
def ty160:TI:=⟨2,48,true,.agg [.sl true [] 0,.sl true [] 0],.struct [(0,157),(1,158)],[],false⟩
def ty163:TI:=⟨1,8,false,.nilm,.map 165 4,[],false⟩
def ty165:TI:=⟨2,16,true,.agg [.int .i64 0,.int .i64 0],.struct [(0,3),(1,3)],[.int .i64,.int .i64],true⟩
def ty167:TI:=⟨3,40,true,.agg [.int .i64 0,.int .i64 0,.sl true [] 0],.struct [(0,165),(2,47)],[],false⟩
def ty168:TI:=⟨1,24,false,.sl true [] 0,.slice 167,[],false⟩
def ty174:TI:=⟨1,24,false,.sl true [] 0,.slice 22,[],false⟩
def ty176:TI:=⟨1,24,false,.sl true [] 0,.slice 54,[],false⟩
def ty183:TI:=⟨4,32,true,.agg [.int .i64 0,.int .i64 0,.nilp,.nilp],.struct [(0,65),(2,107),(3,107)],[],false⟩
def ty187:TI:=⟨1,16,true,.agg [.nili],.struct [(0,120)],[],true⟩
def ty190:TI:=⟨3,40,true,.agg [.int .i64 0,.nili,.nili],.struct [(0,3),(1,120),(2,120)],[],true⟩
def ty192:TI:=⟨2,16,true,.agg [.int .i64 0,.int .i64 0],.struct [(0,65)],[.int .i64,.int .i64],true⟩
def ty200:TI:=⟨1,8,false,.nilp,.ptr 205,[],false⟩
def ty203:TI:=⟨2,24,true,.agg [.str [],.int .i64 0],.struct [(0,9),(1,3)],[],true⟩
def ty205:TI:=⟨3,32,true,.agg [.str [],.int .i64 0,.int .i64 0],.struct [(0,203),(2,3)],[],true⟩
def ty229:TI:=⟨1,8,false,.int .u64 0,.int .u64,[],true⟩
def ty231:TI:=⟨1,8,false,.nilp,.ptr 203,[],false⟩
def ty234:TI:=⟨1,16,false,.nili,.iface,[],true⟩
def ty238:TI:=⟨2,48,true,.agg [.sl true [] 0,.sl true [] 0],.struct [(0,157),(1,158)],[],false⟩
def ty244:TI:=⟨1,24,false,.sl true [] 0,.slice 58,[],false⟩
def ty246:TI:=⟨24,24,true,.agg [.int .u8 0,.int .u8 0,.int .u8 0,.int .u8 0,.int .u8 0,.int .u8 0,.int .u8 0,.int .u8 0,.int .u8 0,.int .u8 0,.int .u8 0,.int .u8 0,.int .u8 0,.int .u8 0,.int .u8 0,.int .u8 0,.int .u8 0,.int .u8 0,.int .u8 0,.int .u8 0,.int .u8 0,.int .u8 0,.int .u8 0,.int .u8 0],.arr 24 5,[],true⟩
def ty251:TI:=⟨1,4,false,.int .u32 0,.int .u32,[],true⟩
def ty262:TI:=⟨0,0,true,.agg [],.struct [],[],true⟩
def ty263:TI:=⟨0,0,true,.agg [],.struct [],[],true⟩
def ty265:TI:=⟨1,8,true,.agg [.int .i64 0],.struct [(0,3)],[.int .i64],true⟩
def ty267:TI:=⟨1,16,true,.agg [.nili],.struct [(0,234)],[],true⟩
def ty269:TI:=⟨2,32,true,.agg [.nili,.nili],.struct [(0,234),(1,234)],[],true⟩
def ty270:TI:=⟨2,32,true,.agg [.nili,.nili],.struct [(0,234),(1,234)],[],true⟩
def ty271:TI:=⟨1,8,false,.nilp,.ptr 275,[],false⟩
def ty272:TI:=⟨1,8,false,.nilm,.map 234 3,[],false⟩
def ty273:TI:=⟨1,24,false,.sl true [] 0,.slice 234,[],false⟩
def ty275:TI:=⟨2,32,true,.agg [.nilm,.sl true [] 0],.struct [(0,272),(1,273)],[],false⟩
def ty277:TI:=⟨1,24,false,.sl true [] 0,.slice 128,[],false⟩
def ty278:TI:=⟨1,8,false,.nilm,.map 128 3,[],false⟩
def ty282:TI:=⟨1,8,false,.nilm,.map 3 3,[],false⟩
def ty287:TI:=⟨4,24,true,.agg [.bool false,.int .u32 0,.int .u32 0,.int .i64 0],.struct [(0,4),(1,251),(2,251),(3,3)],[.bool,.int .u32,.int .u32,.int .i64],true⟩
def ty289:TI:=⟨1,24,false,.sl true [] 0,.slice 251,[],false⟩
def ty292:TI:=⟨2,8,true,.agg [.int .u32 0,.bool false],.struct [(0,251),(1,4)],[.int .u32,.bool],true⟩
def ty293:TI:=⟨1,24,false,.sl true [] 0,.slice 292,[],false⟩
def ty299:TI:=⟨20,160,true,.agg [.int .u64 0,.int .u64 0,.int .u64 0,.int .u64 0,.int .u64 0,.int .u64 0,.int .u64 0,.int .u64 0,.int .u64 0,.int .u64 0,.int .u64 0,.int .u64 0,.int .u64 0,.int .u64 0,.int .u64 0,.int .u64 0,.int .u64 0,.int .u64 0,.int .u64 0,.int .u64 0],.arr 20 128,[],true⟩
def ty300:TI:=⟨65,65,true,.agg (tab 65 fun _=>.int .u8 0),.arr 65 5,[],true⟩
def ty308:TI:=⟨1,8,false,.nilf,.func,[],false⟩
def ty310:TI:=⟨1,8,false,.nilm,.map 312 3,[],false⟩
def ty312:TI:=⟨17,136,true,.agg [.int .i64 0,.int .i64 0,.int .i64 0,.int .i64 0,.int .i64 0,.int .i64 0,.int .i64 0,.int .i64 0,.int .i64 0,.int .i64 0,.int .i64 0,.int .i64 0,.int .i64 0,.int .i64 0,.int .i64 0,.int .i64 0,.int .i64 0],.arr 17 3,[],true⟩
def ty317:TI:=⟨256,256,true,.agg (tab 256 fun _=>.int .u8 0),.arr 256 5,[],true⟩
def ty319:TI:=⟨2,2,true,.agg [.int .u8 0,.int .u8 0],.struct [(0,5),(1,5)],[.int .u8,.int .u8],true⟩
def ty320:TI:=⟨32,32,true,.agg (tab 32 fun _=>.int .u8 0),.arr 16 319,[],true⟩
def ty323:TI:=⟨256,256,true,.agg (tab 256 fun _=>.bool false),.arr 256 4,[],true⟩
def ty327:TI:=⟨1,8,false,.nilp,.ptr 323,[],false⟩
def ty332:TI:=⟨32,32,true,.agg (tab 32 fun _=>.int .u8 0),.arr 32 5,[],true⟩
def ty333:TI:=⟨64,64,true,.agg (tab 64 fun _=>.int .u8 0),.arr 64 5,[],true⟩
def ttL:List TI:=[TI.none,TI.none,ty2,ty3,ty4,ty5,TI.none,TI.none,TI.none,ty9,TI.none,TI.none,TI.none,TI.none,TI.none,TI.none,TI.none,TI.none,TI.none,TI.none,TI.none,ty21,ty22,TI.none,TI.none,ty25,TI.none,TI.none,TI.none,TI.none,TI.none,TI.none,ty32,ty33,ty34,TI.none,ty36,TI.none,TI.none,TI.none,TI.none,TI.none,ty42,TI.none,ty44,TI.none,TI.none,ty47,TI.none,TI.none,TI.none,TI.none,TI.none,TI.none,ty54,TI.none,TI.none,TI.none,ty58,TI.none,ty60,TI.none,TI.none,TI.none,TI.none,ty65,TI.none,TI.none,TI.none,ty69,ty70,ty71,TI.none,ty73,ty74,TI.none,TI.none,TI.none,ty78,TI.none,TI.none,TI.none,TI.none,TI.none,TI.none,TI.none,TI.none,TI.none,TI.none,TI.none,TI.none,TI.none,TI.none,TI.none,TI.none,TI.none,TI.none,TI.none,TI.none,TI.none,TI.none,TI.none,TI.none,TI.none,ty104,TI.none,TI.none,ty107,TI.none,ty109,TI.none,TI.none,ty112,TI.none,ty114,TI.none,ty116,TI.none,TI.none,TI.none,ty120,TI.none,TI.none,TI.none,ty124,TI.none,TI.none,TI.none,ty128,TI.none,TI.none,ty131,TI.none,ty133,TI.none,ty135,ty136,TI.none,ty138,TI.none,ty140,TI.none,TI.none,TI.none,ty144,TI.none,TI.none,ty147,TI.none,TI.none,TI.none,TI.none,TI.none,TI.none,TI.none,TI.none,TI.none,ty157,ty158,TI.none,ty160,TI.none,TI.none,ty163,TI.none,ty165,TI.none,ty167,ty168,TI.none,TI.none,TI.none,TI.none,TI.none,ty174,TI.none,ty176,TI.none,TI.none,TI.none,TI.none,TI.none,TI.none,ty183,TI.none,TI.none,TI.none,ty187,TI.none,TI.none,ty190,TI.none,ty192,TI.none,TI.none,TI.none,TI.none,TI.none,TI.none,TI.none,ty200,TI.none,TI.none,ty203,TI.none,ty205,TI.none,TI.none,TI.none,TI.none,TI.none,TI.none,TI.none,TI.none,TI.none,TI.none,TI.none,TI.none,TI.none,TI.none,TI.none,TI.none,TI.none,TI.none,TI.none,TI.none,TI.none,TI.none,TI.none,ty229,TI.none,ty231,TI.none,TI.none,ty234,TI.none,TI.none,TI.none,ty238,TI.none,TI.none,TI.none,TI.none,TI.none,ty244,TI.none,ty246,TI.none,TI.none,TI.none,TI.none,ty251,TI.none,TI.none,TI.none,TI.none,TI.none,TI.none,TI.none,TI.none,TI.none,TI.none,ty262,ty263,TI.none,ty265,TI.none,ty267,TI.none,ty269,ty270,ty271,ty272,ty273,TI.none,ty275,TI.none,ty277,ty278,TI.none,TI.none,TI.none,ty282,TI.none,TI.none,TI.none,TI.none,ty287,TI.none,ty289,TI.none,TI.none,ty292,ty293,TI.none,TI.none,TI.none,TI.none,TI.none,ty299,ty300,TI.none,TI.none,TI.none,TI.none,TI.none,TI.none,TI.none,ty308,TI.none,ty310,TI.none,ty312,TI.none,TI.none,TI.none,TI.none,ty317,TI.none,ty319,ty320,TI.none,TI.none,ty323,TI.none,TI.none,TI.none,ty327,TI.none,TI.none,TI.none,TI.none,ty332,ty333,TI.none,TI.none,TI.none,TI.none,TI.none,TI.none,TI.none,TI.none,TI.none,TI.none,TI.none,TI.none,TI.none,TI.none,TI.none,TI.none,TI.none]
def tt (t:Nat):TI:=ttOf ttL t
theorem tt_2:tt 2=⟨1,8,false,.int .i64 0,.int .i64,[],true⟩:=rfl
theorem tt_3:tt 3=⟨1,8,false,.int .i64 0,.int .i64,[],true⟩:=rfl
theorem tt_4:tt 4=⟨1,1,false,.bool false,.bool,[],true⟩:=rfl
theorem tt_5:tt 5=⟨1,1,false,.int .u8 0,.int .u8,[],true⟩:=rfl
theorem tt_9:tt 9=⟨1,16,false,.str [],.str,[],true⟩:=rfl
theorem tt_21:tt 21=⟨1,4,false,.int .i32 0,.int .i32,[],true⟩:=rfl
theorem tt_22:tt 22=⟨1,24,false,.sl true [] 0,.slice 60,[],false⟩:=rfl
theorem tt_25:tt 25=⟨1,8,false,.int .i64 0,.int .i64,[],true⟩:=rfl
theorem tt_32:tt 32=⟨1,24,false,.sl true [] 0,.slice 3,[],false⟩:=rfl
theorem tt_33:tt 33=⟨1,24,false,.sl true [] 0,.slice 114,[],false⟩:=rfl
theorem tt_34:tt 34=⟨1,24,false,.sl true [] 0,.slice 112,[],false⟩:=rfl
theorem tt_36:tt 36=⟨3,72,true,.agg [.sl true [] 0,.sl true [] 0,.sl true [] 0],.struct [(0,32),(1,33),(2,34)],[],false⟩:=rfl
theorem tt_42:tt 42=⟨3,3,true,.agg [.int .u8 0,.int .u8 0,.int .u8 0],.struct [(0,5),(1,5),(2,5)],[.int .u8,.int .u8,.int .u8],true⟩:=rfl
theorem tt_44:tt 44=⟨4,16,true,.agg [.int .i64 0,.int .u8 0,.int .u8 0,.int .u8 0],.struct [(0,3),(1,42)],[.int .i64,.int .u8,.int .u8,.int .u8],true⟩:=rfl
theorem tt_47:tt 47=⟨1,24,false,.sl true [] 0,.slice 69,[],false⟩:=rfl
theorem tt_54:tt 54=⟨1,24,false,.sl true [] 0,.slice 104,[],false⟩:=rfl
theorem tt_58:tt 58=⟨1,24,false,.sl true [] 0,.slice 65,[],false⟩:=rfl
theorem tt_60:tt 60=⟨4,64,true,.agg [.int .i64 0,.int .i64 0,.sl true [] 0,.sl true [] 0],.struct [(0,3),(1,3),(2,54),(3,58)],[],false⟩:=rfl
theorem tt_65:tt 65=⟨2,16,true,.agg [.int .i64 0,.int .i64 0],.struct [(0,3),(1,3)],[.int .i64,.int .i64],true⟩:=rfl
theorem tt_69:tt 69=⟨3,24,true,.agg [.int .i64 0,.int .i64 0,.int .i64 0],.struct [(0,3),(1,3),(2,3)],[.int .i64,.int .i64,.int .i64],true⟩:=rfl
theorem tt_70:tt 70=⟨1,8,false,.nilp,.ptr 73,[],false⟩:=rfl
theorem tt_71:tt 71=⟨1,24,false,.sl true [] 0,.slice 5,[],false⟩:=rfl
theorem tt_73:tt 73=⟨2,32,true,.agg [.nilp,.sl true [] 0],.struct [(0,70),(1,71)],[],false⟩:=rfl
theorem tt_74:tt 74=⟨1,8,false,.nilf,.func,[],false⟩:=rfl
theorem tt_78:tt 78=⟨1,24,false,.sl true [] 0,.slice 9,[],false⟩:=rfl
theorem tt_104:tt 104=⟨4,24,true,.agg [.int .i64 0,.int .i64 0,.int .u8 0,.int .u8 0],.struct [(0,3),(1,3),(2,5),(3,5)],[.int .i64,.int .i64,.int .u8,.int .u8],true⟩:=rfl
theorem tt_107:tt 107=⟨1,8,false,.nilp,.ptr 183,[],false⟩:=rfl
theorem tt_109:tt 109=⟨1,8,false,.nilf,.func,[],false⟩:=rfl
theorem tt_112:tt 112=⟨2,16,true,.agg [.int .i64 0,.int .i64 0],.struct [(0,3),(1,3)],[.int .i64,.int .i64],true⟩:=rfl
theorem tt_114:tt 114=⟨5,40,true,.agg [.int .i64 0,.int .i64 0,.int .i64 0,.int .i64 0,.bool false],.struct [(0,112),(2,112),(4,4)],[.int .i64,.int .i64,.int .i64,.int .i64,.bool],true⟩:=rfl
theorem tt_116:tt 116=⟨2,24,true,.agg [.str [],.int .i64 0],.struct [(0,9),(1,3)],[],true⟩:=rfl
theorem tt_120:tt 120=⟨1,16,false,.nili,.iface,[],true⟩:=rfl
theorem tt_124:tt 124=⟨1,8,false,.nilp,.ptr 5,[],false⟩:=rfl
theorem tt_128:tt 128=⟨1,8,false,.int .u64 0,.int .u64,[],true⟩:=rfl
theorem tt_131:tt 131=⟨1,8,false,.nilp,.ptr 133,[],false⟩:=rfl
theorem tt_133:tt 133=⟨1,16,true,.agg [.str []],.struct [(0,9)],[],true⟩:=rfl
theorem tt_135:tt 135=⟨1,8,false,.nilf,.func,[],false⟩:=rfl
theorem tt_136:tt 136=⟨1,8,false,.nilp,.ptr 138,[],false⟩:=rfl
theorem tt_138:tt 138=⟨1,16,true,.agg [.str []],.struct [(0,9)],[],true⟩:=rfl
theorem tt_140:tt 140=⟨1,8,false,.nilf,.func,[],false⟩:=rfl
theorem tt_144:tt 144=⟨3,48,true,.agg [.sl true [] 0,.str [],.bool false],.struct [(0,54),(1,9),(2,4)],[],false⟩:=rfl
theorem tt_147:tt 147=⟨3,48,true,.agg [.sl true [] 0,.str [],.bool false],.struct [(0,58),(1,9),(2,4)],[],false⟩:=rfl
theorem tt_157:tt 157=⟨1,24,false,.sl true [] 0,.slice 32,[],false⟩:=rfl
theorem tt_158:tt 158=⟨1,24,false,.sl true [] 0,.slice 4,[],false⟩:=rfl
theorem tt_160:tt 160=⟨2,48,true,.agg [.sl true [] 0,.sl true [] 0],.struct [(0,157),(1,158)],[],false⟩:=rfl
theorem tt_163:tt 163=⟨1,8,false,.nilm,.map 165 4,[],false⟩:=rfl
theorem tt_165:tt 165=⟨2,16,true,.agg [.int .i64 0,.int .i64 0],.struct [(0,3),(1,3)],[.int .i64,.int .i64],true⟩:=rfl
theorem tt_167:tt 167=⟨3,40,true,.agg [.int .i64 0,.int .i64 0,.sl true [] 0],.struct [(0,165),(2,47)],[],false⟩:=rfl
theorem tt_168:tt 168=⟨1,24,false,.sl true [] 0,.slice 167,[],false⟩:=rfl
theorem tt_174:tt 174=⟨1,24,false,.sl true [] 0,.slice 22,[],false⟩:=rfl
theorem tt_176:tt 176=⟨1,24,false,.sl true [] 0,.slice 54,[],false⟩:=rfl
theorem tt_183:tt 183=⟨4,32,true,.agg [.int .i64 0,.int .i64 0,.nilp,.nilp],.struct [(0,65),(2,107),(3,107)],[],false⟩:=rfl
theorem tt_187:tt 187=⟨1,16,true,.agg [.nili],.struct [(0,120)],[],true⟩:=rfl
theorem tt_190:tt 190=⟨3,40,true,.agg [.int .i64 0,.nili,.nili],.struct [(0,3),(1,120),(2,120)],[],true⟩:=rfl
theorem tt_192:tt 192=⟨2,16,true,.agg [.int .i64 0,.int .i64 0],.struct [(0,65)],[.int .i64,.int .i64],true⟩:=rfl
theorem tt_200:tt 200=⟨1,8,false,.nilp,.ptr 205,[],false⟩:=rfl
theorem tt_203:tt 203=⟨2,24,true,.agg [.str [],.int .i64 0],.struct [(0,9),(1,3)],[],true⟩:=rfl
theorem tt_205:tt 205=⟨3,32,true,.agg [.str [],.int .i64 0,.int .i64 0],.struct [(0,203),(2,3)],[],true⟩:=rfl
theorem tt_229:tt 229=⟨1,8,false,.int .u64 0,.int .u64,[],true⟩:=rfl
theorem tt_231:tt 231=⟨1,8,false,.nilp,.ptr 203,[],false⟩:=rfl
theorem tt_234:tt 234=⟨1,16,false,.nili,.iface,[],true⟩:=rfl
theorem tt_238:tt 238=⟨2,48,true,.agg [.sl true [] 0,.sl true [] 0],.struct [(0,157),(1,158)],[],false⟩:=rfl
theorem tt_244:tt 244=⟨1,24,false,.sl true [] 0,.slice 58,[],false⟩:=rfl
theorem tt_246:tt 246=⟨24,24,true,.agg [.int .u8 0,.int .u8 0,.int .u8 0,.int .u8 0,.int .u8 0,.int .u8 0,.int .u8 0,.int .u8 0,.int .u8 0,.int .u8 0,.int .u8 0,.int .u8 0,.int .u8 0,.int .u8 0,.int .u8 0,.int .u8 0,.int .u8 0,.int .u8 0,.int .u8 0,.int .u8 0,.int .u8 0,.int .u8 0,.int .u8 0,.int .u8 0],.arr 24 5,[],true⟩:=rfl
theorem tt_251:tt 251=⟨1,4,false,.int .u32 0,.int .u32,[],true⟩:=rfl
theorem tt_262:tt 262=⟨0,0,true,.agg [],.struct [],[],true⟩:=rfl
theorem tt_263:tt 263=⟨0,0,true,.agg [],.struct [],[],true⟩:=rfl
theorem tt_265:tt 265=⟨1,8,true,.agg [.int .i64 0],.struct [(0,3)],[.int .i64],true⟩:=rfl
theorem tt_267:tt 267=⟨1,16,true,.agg [.nili],.struct [(0,234)],[],true⟩:=rfl
theorem tt_269:tt 269=⟨2,32,true,.agg [.nili,.nili],.struct [(0,234),(1,234)],[],true⟩:=rfl
theorem tt_270:tt 270=⟨2,32,true,.agg [.nili,.nili],.struct [(0,234),(1,234)],[],true⟩:=rfl
theorem tt_271:tt 271=⟨1,8,false,.nilp,.ptr 275,[],false⟩:=rfl
theorem tt_272:tt 272=⟨1,8,false,.nilm,.map 234 3,[],false⟩:=rfl
theorem tt_273:tt 273=⟨1,24,false,.sl true [] 0,.slice 234,[],false⟩:=rfl
theorem tt_275:tt 275=⟨2,32,true,.agg [.nilm,.sl true [] 0],.struct [(0,272),(1,273)],[],false⟩:=rfl
theorem tt_277:tt 277=⟨1,24,false,.sl true [] 0,.slice 128,[],false⟩:=rfl
theorem tt_278:tt 278=⟨1,8,false,.nilm,.map 128 3,[],false⟩:=rfl
theorem tt_282:tt 282=⟨1,8,false,.nilm,.map 3 3,[],false⟩:=rfl
theorem tt_287:tt 287=⟨4,24,true,.agg [.bool false,.int .u32 0,.int .u32 0,.int .i64 0],.struct [(0,4),(1,251),(2,251),(3,3)],[.bool,.int .u32,.int .u32,.int .i64],true⟩:=rfl
theorem tt_289:tt 289=⟨1,24,false,.sl true [] 0,.slice 251,[],false⟩:=rfl
theorem tt_292:tt 292=⟨2,8,true,.agg [.int .u32 0,.bool false],.struct [(0,251),(1,4)],[.int .u32,.bool],true⟩:=rfl
theorem tt_293:tt 293=⟨1,24,false,.sl true [] 0,.slice 292,[],false⟩:=rfl
theorem tt_299:tt 299=⟨20,160,true,.agg [.int .u64 0,.int .u64 0,.int .u64 0,.int .u64 0,.int .u64 0,.int .u64 0,.int .u64 0,.int .u64 0,.int .u64 0,.int .u64 0,.int .u64 0,.int .u64 0,.int .u64 0,.int .u64 0,.int .u64 0,.int .u64 0,.int .u64 0,.int .u64 0,.int .u64 0,.int .u64 0],.arr 20 128,[],true⟩:=rfl
theorem tt_300:tt 300=⟨65,65,true,.agg (tab 65 fun _=>.int .u8 0),.arr 65 5,[],true⟩:=rfl
theorem tt_308:tt 308=⟨1,8,false,.nilf,.func,[],false⟩:=rfl
theorem tt_310:tt 310=⟨1,8,false,.nilm,.map 312 3,[],false⟩:=rfl
theorem tt_312:tt 312=⟨17,136,true,.agg [.int .i64 0,.int .i64 0,.int .i64 0,.int .i64 0,.int .i64 0,.int .i64 0,.int .i64 0,.int .i64 0,.int .i64 0,.int .i64 0,.int .i64 0,.int .i64 0,.int .i64 0,.int .i64 0,.int .i64 0,.int .i64 0,.int .i64 0],.arr 17 3,[],true⟩:=rfl
theorem tt_317:tt 317=⟨256,256,true,.agg (tab 256 fun _=>.int .u8 0),.arr 256 5,[],true⟩:=rfl
theorem tt_319:tt 319=⟨2,2,true,.agg [.int .u8 0,.int .u8 0],.struct [(0,5),(1,5)],[.int .u8,.int .u8],true⟩:=rfl
theorem tt_320:tt 320=⟨32,32,true,.agg (tab 32 fun _=>.int .u8 0),.arr 16 319,[],true⟩:=rfl
theorem tt_323:tt 323=⟨256,256,true,.agg (tab 256 fun _=>.bool false),.arr 256 4,[],true⟩:=rfl
theorem tt_327:tt 327=⟨1,8,false,.nilp,.ptr 323,[],false⟩:=rfl
theorem tt_332:tt 332=⟨32,32,true,.agg (tab 32 fun _=>.int .u8 0),.arr 32 5,[],true⟩:=rfl
theorem tt_333:tt 333=⟨64,64,true,.agg (tab 64 fun _=>.int .u8 0),.arr 64 5,[],true⟩:=rfl
attribute [push_cast] tt_2 tt_3 tt_4 tt_5 tt_9 tt_21 tt_22 tt_25 tt_32 tt_33 tt_34 tt_36 tt_42 tt_44 tt_47 tt_54 tt_58 tt_60 tt_65 tt_69 tt_70 tt_71 tt_73 tt_74 tt_78 tt_104 tt_107 tt_109 tt_112 tt_114 tt_116 tt_120 tt_124 tt_128 tt_131 tt_133 tt_135 tt_136 tt_138 tt_140 tt_144 tt_147 tt_157 tt_158 tt_160 tt_163 tt_165 tt_167 tt_168 tt_174 tt_176 tt_183 tt_187 tt_190 tt_192 tt_200 tt_203 tt_205 tt_229 tt_231 tt_234 tt_238 tt_244 tt_246 tt_251 tt_262 tt_263 tt_265 tt_267 tt_269 tt_270 tt_271 tt_272 tt_273 tt_275 tt_277 tt_278 tt_282 tt_287 tt_289 tt_292 tt_293 tt_299 tt_300 tt_308 tt_310 tt_312 tt_317 tt_319 tt_320 tt_323 tt_327 tt_332 tt_333
theorem row_2:TIok Tryz.prog 2 ty2:=TIok.of_row (by kernel_rfl) (z:=.int .i64 0) (by kernel_rfl) (fun _ _ _=>ofConst_sound (.int .i64 0)) (by kernel_rfl) (by kernel_rfl) (fun h=>absurd h (by decide))
theorem row_3:TIok Tryz.prog 3 ty3:=TIok.of_row (by kernel_rfl) (z:=.int .i64 0) (by kernel_rfl) (fun _ _ _=>ofConst_sound (.int .i64 0)) (by kernel_rfl) (by kernel_rfl) (fun h=>absurd h (by decide))
theorem row_4:TIok Tryz.prog 4 ty4:=TIok.of_row (by kernel_rfl) (z:=.bool false) (by kernel_rfl) (fun _ _ _=>ofConst_sound (.bool false)) (by kernel_rfl) (by kernel_rfl) (fun h=>absurd h (by decide))
theorem row_5:TIok Tryz.prog 5 ty5:=TIok.of_row (by kernel_rfl) (z:=.int .u8 0) (by kernel_rfl) (fun _ _ _=>ofConst_sound (.int .u8 0)) (by kernel_rfl) (by kernel_rfl) (fun h=>absurd h (by decide))
theorem row_9:TIok Tryz.prog 9 ty9:=TIok.of_row (by kernel_rfl) (z:=.string ByteArray.empty) (by kernel_rfl) (fun _ _ _=>ofConst_sound (.string ByteArray.empty)) (by kernel_rfl) (by kernel_rfl) (fun h=>absurd h (by decide))
theorem row_21:TIok Tryz.prog 21 ty21:=TIok.of_row (by kernel_rfl) (z:=.int .i32 0) (by kernel_rfl) (fun _ _ _=>ofConst_sound (.int .i32 0)) (by kernel_rfl) (by kernel_rfl) (fun h=>absurd h (by decide))
theorem row_22:TIok Tryz.prog 22 ty22:=TIok.of_row (by kernel_rfl) (z:=.slice none 0 0) (by kernel_rfl) (fun _ _ _=>ofConst_sound (.slice none 0 0)) (by kernel_rfl) (by kernel_rfl) (fun h=>absurd h (by decide))
theorem row_25:TIok Tryz.prog 25 ty25:=TIok.of_row (by kernel_rfl) (z:=.int .i64 0) (by kernel_rfl) (fun _ _ _=>ofConst_sound (.int .i64 0)) (by kernel_rfl) (by kernel_rfl) (fun h=>absurd h (by decide))
theorem row_32:TIok Tryz.prog 32 ty32:=TIok.of_row (by kernel_rfl) (z:=.slice none 0 0) (by kernel_rfl) (fun _ _ _=>ofConst_sound (.slice none 0 0)) (by kernel_rfl) (by kernel_rfl) (fun h=>absurd h (by decide))
theorem row_33:TIok Tryz.prog 33 ty33:=TIok.of_row (by kernel_rfl) (z:=.slice none 0 0) (by kernel_rfl) (fun _ _ _=>ofConst_sound (.slice none 0 0)) (by kernel_rfl) (by kernel_rfl) (fun h=>absurd h (by decide))
theorem row_34:TIok Tryz.prog 34 ty34:=TIok.of_row (by kernel_rfl) (z:=.slice none 0 0) (by kernel_rfl) (fun _ _ _=>ofConst_sound (.slice none 0 0)) (by kernel_rfl) (by kernel_rfl) (fun h=>absurd h (by decide))
theorem row_36:TIok Tryz.prog 36 ty36:=TIok.of_row (by kernel_rfl) (z:=.agg #[.slice none 0 0,.slice none 0 0,.slice none 0 0]) (by kernel_rfl) (fun _ _ _=>ofConst_sound (.agg #[.slice none 0 0,.slice none 0 0,.slice none 0 0])) (by kernel_rfl) (by kernel_rfl) (fun _=>.inl rfl)
theorem row_42:TIok Tryz.prog 42 ty42:=TIok.of_row (by kernel_rfl) (z:=.agg #[.int .u8 0,.int .u8 0,.int .u8 0]) (by kernel_rfl) (fun _ _ _=>ofConst_sound (.agg #[.int .u8 0,.int .u8 0,.int .u8 0])) (by kernel_rfl) (by kernel_rfl) (fun _=>.inr (by kernel_rfl))
theorem row_44:TIok Tryz.prog 44 ty44:=TIok.of_row (by kernel_rfl) (z:=.agg #[.int .i64 0,.int .u8 0,.int .u8 0,.int .u8 0]) (by kernel_rfl) (fun _ _ _=>ofConst_sound (.agg #[.int .i64 0,.int .u8 0,.int .u8 0,.int .u8 0])) (by kernel_rfl) (by kernel_rfl) (fun _=>.inr (by kernel_rfl))
theorem row_47:TIok Tryz.prog 47 ty47:=TIok.of_row (by kernel_rfl) (z:=.slice none 0 0) (by kernel_rfl) (fun _ _ _=>ofConst_sound (.slice none 0 0)) (by kernel_rfl) (by kernel_rfl) (fun h=>absurd h (by decide))
theorem row_54:TIok Tryz.prog 54 ty54:=TIok.of_row (by kernel_rfl) (z:=.slice none 0 0) (by kernel_rfl) (fun _ _ _=>ofConst_sound (.slice none 0 0)) (by kernel_rfl) (by kernel_rfl) (fun h=>absurd h (by decide))
theorem row_58:TIok Tryz.prog 58 ty58:=TIok.of_row (by kernel_rfl) (z:=.slice none 0 0) (by kernel_rfl) (fun _ _ _=>ofConst_sound (.slice none 0 0)) (by kernel_rfl) (by kernel_rfl) (fun h=>absurd h (by decide))
theorem row_60:TIok Tryz.prog 60 ty60:=TIok.of_row (by kernel_rfl) (z:=.agg #[.int .i64 0,.int .i64 0,.slice none 0 0,.slice none 0 0]) (by kernel_rfl) (fun _ _ _=>ofConst_sound (.agg #[.int .i64 0,.int .i64 0,.slice none 0 0,.slice none 0 0])) (by kernel_rfl) (by kernel_rfl) (fun _=>.inl rfl)
theorem row_65:TIok Tryz.prog 65 ty65:=TIok.of_row (by kernel_rfl) (z:=.agg #[.int .i64 0,.int .i64 0]) (by kernel_rfl) (fun _ _ _=>ofConst_sound (.agg #[.int .i64 0,.int .i64 0])) (by kernel_rfl) (by kernel_rfl) (fun _=>.inr (by kernel_rfl))
theorem row_69:TIok Tryz.prog 69 ty69:=TIok.of_row (by kernel_rfl) (z:=.agg #[.int .i64 0,.int .i64 0,.int .i64 0]) (by kernel_rfl) (fun _ _ _=>ofConst_sound (.agg #[.int .i64 0,.int .i64 0,.int .i64 0])) (by kernel_rfl) (by kernel_rfl) (fun _=>.inr (by kernel_rfl))
theorem row_70:TIok Tryz.prog 70 ty70:=TIok.of_row (by kernel_rfl) (z:=.pointer none) (by kernel_rfl) (fun _ _ _=>ofConst_sound (.pointer none)) (by kernel_rfl) (by kernel_rfl) (fun h=>absurd h (by decide))
theorem row_71:TIok Tryz.prog 71 ty71:=TIok.of_row (by kernel_rfl) (z:=.slice none 0 0) (by kernel_rfl) (fun _ _ _=>ofConst_sound (.slice none 0 0)) (by kernel_rfl) (by kernel_rfl) (fun h=>absurd h (by decide))
theorem row_73:TIok Tryz.prog 73 ty73:=TIok.of_row (by kernel_rfl) (z:=.agg #[.pointer none,.slice none 0 0]) (by kernel_rfl) (fun _ _ _=>ofConst_sound (.agg #[.pointer none,.slice none 0 0])) (by kernel_rfl) (by kernel_rfl) (fun _=>.inl rfl)
theorem row_74:TIok Tryz.prog 74 ty74:=TIok.of_row (by kernel_rfl) (z:=.nilFunc) (by kernel_rfl) (fun _ _ _=>ofConst_sound (.nilFunc)) (by kernel_rfl) (by kernel_rfl) (fun h=>absurd h (by decide))
theorem row_78:TIok Tryz.prog 78 ty78:=TIok.of_row (by kernel_rfl) (z:=.slice none 0 0) (by kernel_rfl) (fun _ _ _=>ofConst_sound (.slice none 0 0)) (by kernel_rfl) (by kernel_rfl) (fun h=>absurd h (by decide))
theorem row_104:TIok Tryz.prog 104 ty104:=TIok.of_row (by kernel_rfl) (z:=.agg #[.int .i64 0,.int .i64 0,.int .u8 0,.int .u8 0]) (by kernel_rfl) (fun _ _ _=>ofConst_sound (.agg #[.int .i64 0,.int .i64 0,.int .u8 0,.int .u8 0])) (by kernel_rfl) (by kernel_rfl) (fun _=>.inr (by kernel_rfl))
theorem row_107:TIok Tryz.prog 107 ty107:=TIok.of_row (by kernel_rfl) (z:=.pointer none) (by kernel_rfl) (fun _ _ _=>ofConst_sound (.pointer none)) (by kernel_rfl) (by kernel_rfl) (fun h=>absurd h (by decide))
theorem row_109:TIok Tryz.prog 109 ty109:=TIok.of_row (by kernel_rfl) (z:=.nilFunc) (by kernel_rfl) (fun _ _ _=>ofConst_sound (.nilFunc)) (by kernel_rfl) (by kernel_rfl) (fun h=>absurd h (by decide))
theorem row_112:TIok Tryz.prog 112 ty112:=TIok.of_row (by kernel_rfl) (z:=.agg #[.int .i64 0,.int .i64 0]) (by kernel_rfl) (fun _ _ _=>ofConst_sound (.agg #[.int .i64 0,.int .i64 0])) (by kernel_rfl) (by kernel_rfl) (fun _=>.inr (by kernel_rfl))
theorem row_114:TIok Tryz.prog 114 ty114:=TIok.of_row (by kernel_rfl) (z:=.agg #[.int .i64 0,.int .i64 0,.int .i64 0,.int .i64 0,.bool false]) (by kernel_rfl) (fun _ _ _=>ofConst_sound (.agg #[.int .i64 0,.int .i64 0,.int .i64 0,.int .i64 0,.bool false])) (by kernel_rfl) (by kernel_rfl) (fun _=>.inr (by kernel_rfl))
theorem row_116:TIok Tryz.prog 116 ty116:=TIok.of_row (by kernel_rfl) (z:=.agg #[.string ByteArray.empty,.int .i64 0]) (by kernel_rfl) (fun _ _ _=>ofConst_sound (.agg #[.string ByteArray.empty,.int .i64 0])) (by kernel_rfl) (by kernel_rfl) (fun _=>.inl rfl)
theorem row_120:TIok Tryz.prog 120 ty120:=TIok.of_row (by kernel_rfl) (z:=.nilIface) (by kernel_rfl) (fun _ _ _=>ofConst_sound (.nilIface)) (by kernel_rfl) (by kernel_rfl) (fun h=>absurd h (by decide))
theorem row_124:TIok Tryz.prog 124 ty124:=TIok.of_row (by kernel_rfl) (z:=.pointer none) (by kernel_rfl) (fun _ _ _=>ofConst_sound (.pointer none)) (by kernel_rfl) (by kernel_rfl) (fun h=>absurd h (by decide))
theorem row_128:TIok Tryz.prog 128 ty128:=TIok.of_row (by kernel_rfl) (z:=.int .u64 0) (by kernel_rfl) (fun _ _ _=>ofConst_sound (.int .u64 0)) (by kernel_rfl) (by kernel_rfl) (fun h=>absurd h (by decide))
theorem row_131:TIok Tryz.prog 131 ty131:=TIok.of_row (by kernel_rfl) (z:=.pointer none) (by kernel_rfl) (fun _ _ _=>ofConst_sound (.pointer none)) (by kernel_rfl) (by kernel_rfl) (fun h=>absurd h (by decide))
theorem row_133:TIok Tryz.prog 133 ty133:=TIok.of_row (by kernel_rfl) (z:=.agg #[.string ByteArray.empty]) (by kernel_rfl) (fun _ _ _=>ofConst_sound (.agg #[.string ByteArray.empty])) (by kernel_rfl) (by kernel_rfl) (fun _=>.inl rfl)
theorem row_135:TIok Tryz.prog 135 ty135:=TIok.of_row (by kernel_rfl) (z:=.nilFunc) (by kernel_rfl) (fun _ _ _=>ofConst_sound (.nilFunc)) (by kernel_rfl) (by kernel_rfl) (fun h=>absurd h (by decide))
theorem row_136:TIok Tryz.prog 136 ty136:=TIok.of_row (by kernel_rfl) (z:=.pointer none) (by kernel_rfl) (fun _ _ _=>ofConst_sound (.pointer none)) (by kernel_rfl) (by kernel_rfl) (fun h=>absurd h (by decide))
theorem row_138:TIok Tryz.prog 138 ty138:=TIok.of_row (by kernel_rfl) (z:=.agg #[.string ByteArray.empty]) (by kernel_rfl) (fun _ _ _=>ofConst_sound (.agg #[.string ByteArray.empty])) (by kernel_rfl) (by kernel_rfl) (fun _=>.inl rfl)
theorem row_140:TIok Tryz.prog 140 ty140:=TIok.of_row (by kernel_rfl) (z:=.nilFunc) (by kernel_rfl) (fun _ _ _=>ofConst_sound (.nilFunc)) (by kernel_rfl) (by kernel_rfl) (fun h=>absurd h (by decide))
theorem row_144:TIok Tryz.prog 144 ty144:=TIok.of_row (by kernel_rfl) (z:=.agg #[.slice none 0 0,.string ByteArray.empty,.bool false]) (by kernel_rfl) (fun _ _ _=>ofConst_sound (.agg #[.slice none 0 0,.string ByteArray.empty,.bool false])) (by kernel_rfl) (by kernel_rfl) (fun _=>.inl rfl)
theorem row_147:TIok Tryz.prog 147 ty147:=TIok.of_row (by kernel_rfl) (z:=.agg #[.slice none 0 0,.string ByteArray.empty,.bool false]) (by kernel_rfl) (fun _ _ _=>ofConst_sound (.agg #[.slice none 0 0,.string ByteArray.empty,.bool false])) (by kernel_rfl) (by kernel_rfl) (fun _=>.inl rfl)
theorem row_157:TIok Tryz.prog 157 ty157:=TIok.of_row (by kernel_rfl) (z:=.slice none 0 0) (by kernel_rfl) (fun _ _ _=>ofConst_sound (.slice none 0 0)) (by kernel_rfl) (by kernel_rfl) (fun h=>absurd h (by decide))
theorem row_158:TIok Tryz.prog 158 ty158:=TIok.of_row (by kernel_rfl) (z:=.slice none 0 0) (by kernel_rfl) (fun _ _ _=>ofConst_sound (.slice none 0 0)) (by kernel_rfl) (by kernel_rfl) (fun h=>absurd h (by decide))
theorem row_160:TIok Tryz.prog 160 ty160:=TIok.of_row (by kernel_rfl) (z:=.agg #[.slice none 0 0,.slice none 0 0]) (by kernel_rfl) (fun _ _ _=>ofConst_sound (.agg #[.slice none 0 0,.slice none 0 0])) (by kernel_rfl) (by kernel_rfl) (fun _=>.inl rfl)
theorem row_163:TIok Tryz.prog 163 ty163:=TIok.of_row (by kernel_rfl) (z:=.map none) (by kernel_rfl) (fun _ _ _=>ofConst_sound (.map none)) (by kernel_rfl) (by kernel_rfl) (fun h=>absurd h (by decide))
theorem row_165:TIok Tryz.prog 165 ty165:=TIok.of_row (by kernel_rfl) (z:=.agg #[.int .i64 0,.int .i64 0]) (by kernel_rfl) (fun _ _ _=>ofConst_sound (.agg #[.int .i64 0,.int .i64 0])) (by kernel_rfl) (by kernel_rfl) (fun _=>.inr (by kernel_rfl))
theorem row_167:TIok Tryz.prog 167 ty167:=TIok.of_row (by kernel_rfl) (z:=.agg #[.int .i64 0,.int .i64 0,.slice none 0 0]) (by kernel_rfl) (fun _ _ _=>ofConst_sound (.agg #[.int .i64 0,.int .i64 0,.slice none 0 0])) (by kernel_rfl) (by kernel_rfl) (fun _=>.inl rfl)
theorem row_168:TIok Tryz.prog 168 ty168:=TIok.of_row (by kernel_rfl) (z:=.slice none 0 0) (by kernel_rfl) (fun _ _ _=>ofConst_sound (.slice none 0 0)) (by kernel_rfl) (by kernel_rfl) (fun h=>absurd h (by decide))
theorem row_174:TIok Tryz.prog 174 ty174:=TIok.of_row (by kernel_rfl) (z:=.slice none 0 0) (by kernel_rfl) (fun _ _ _=>ofConst_sound (.slice none 0 0)) (by kernel_rfl) (by kernel_rfl) (fun h=>absurd h (by decide))
theorem row_176:TIok Tryz.prog 176 ty176:=TIok.of_row (by kernel_rfl) (z:=.slice none 0 0) (by kernel_rfl) (fun _ _ _=>ofConst_sound (.slice none 0 0)) (by kernel_rfl) (by kernel_rfl) (fun h=>absurd h (by decide))
theorem row_183:TIok Tryz.prog 183 ty183:=TIok.of_row (by kernel_rfl) (z:=.agg #[.int .i64 0,.int .i64 0,.pointer none,.pointer none]) (by kernel_rfl) (fun _ _ _=>ofConst_sound (.agg #[.int .i64 0,.int .i64 0,.pointer none,.pointer none])) (by kernel_rfl) (by kernel_rfl) (fun _=>.inl rfl)
theorem row_187:TIok Tryz.prog 187 ty187:=TIok.of_row (by kernel_rfl) (z:=.agg #[.nilIface]) (by kernel_rfl) (fun _ _ _=>ofConst_sound (.agg #[.nilIface])) (by kernel_rfl) (by kernel_rfl) (fun _=>.inl rfl)
theorem row_190:TIok Tryz.prog 190 ty190:=TIok.of_row (by kernel_rfl) (z:=.agg #[.int .i64 0,.nilIface,.nilIface]) (by kernel_rfl) (fun _ _ _=>ofConst_sound (.agg #[.int .i64 0,.nilIface,.nilIface])) (by kernel_rfl) (by kernel_rfl) (fun _=>.inl rfl)
theorem row_192:TIok Tryz.prog 192 ty192:=TIok.of_row (by kernel_rfl) (z:=.agg #[.int .i64 0,.int .i64 0]) (by kernel_rfl) (fun _ _ _=>ofConst_sound (.agg #[.int .i64 0,.int .i64 0])) (by kernel_rfl) (by kernel_rfl) (fun _=>.inr (by kernel_rfl))
theorem row_200:TIok Tryz.prog 200 ty200:=TIok.of_row (by kernel_rfl) (z:=.pointer none) (by kernel_rfl) (fun _ _ _=>ofConst_sound (.pointer none)) (by kernel_rfl) (by kernel_rfl) (fun h=>absurd h (by decide))
theorem row_203:TIok Tryz.prog 203 ty203:=TIok.of_row (by kernel_rfl) (z:=.agg #[.string ByteArray.empty,.int .i64 0]) (by kernel_rfl) (fun _ _ _=>ofConst_sound (.agg #[.string ByteArray.empty,.int .i64 0])) (by kernel_rfl) (by kernel_rfl) (fun _=>.inl rfl)
theorem row_205:TIok Tryz.prog 205 ty205:=TIok.of_row (by kernel_rfl) (z:=.agg #[.string ByteArray.empty,.int .i64 0,.int .i64 0]) (by kernel_rfl) (fun _ _ _=>ofConst_sound (.agg #[.string ByteArray.empty,.int .i64 0,.int .i64 0])) (by kernel_rfl) (by kernel_rfl) (fun _=>.inl rfl)
theorem row_229:TIok Tryz.prog 229 ty229:=TIok.of_row (by kernel_rfl) (z:=.int .u64 0) (by kernel_rfl) (fun _ _ _=>ofConst_sound (.int .u64 0)) (by kernel_rfl) (by kernel_rfl) (fun h=>absurd h (by decide))
theorem row_231:TIok Tryz.prog 231 ty231:=TIok.of_row (by kernel_rfl) (z:=.pointer none) (by kernel_rfl) (fun _ _ _=>ofConst_sound (.pointer none)) (by kernel_rfl) (by kernel_rfl) (fun h=>absurd h (by decide))
theorem row_234:TIok Tryz.prog 234 ty234:=TIok.of_row (by kernel_rfl) (z:=.nilIface) (by kernel_rfl) (fun _ _ _=>ofConst_sound (.nilIface)) (by kernel_rfl) (by kernel_rfl) (fun h=>absurd h (by decide))
theorem row_238:TIok Tryz.prog 238 ty238:=TIok.of_row (by kernel_rfl) (z:=.agg #[.slice none 0 0,.slice none 0 0]) (by kernel_rfl) (fun _ _ _=>ofConst_sound (.agg #[.slice none 0 0,.slice none 0 0])) (by kernel_rfl) (by kernel_rfl) (fun _=>.inl rfl)
theorem row_244:TIok Tryz.prog 244 ty244:=TIok.of_row (by kernel_rfl) (z:=.slice none 0 0) (by kernel_rfl) (fun _ _ _=>ofConst_sound (.slice none 0 0)) (by kernel_rfl) (by kernel_rfl) (fun h=>absurd h (by decide))
theorem row_246:TIok Tryz.prog 246 ty246:=TIok.of_row (by kernel_rfl) (z:=.agg #[.int .u8 0,.int .u8 0,.int .u8 0,.int .u8 0,.int .u8 0,.int .u8 0,.int .u8 0,.int .u8 0,.int .u8 0,.int .u8 0,.int .u8 0,.int .u8 0,.int .u8 0,.int .u8 0,.int .u8 0,.int .u8 0,.int .u8 0,.int .u8 0,.int .u8 0,.int .u8 0,.int .u8 0,.int .u8 0,.int .u8 0,.int .u8 0]) (by kernel_rfl) (fun _ _ _=>ofConst_sound (.agg #[.int .u8 0,.int .u8 0,.int .u8 0,.int .u8 0,.int .u8 0,.int .u8 0,.int .u8 0,.int .u8 0,.int .u8 0,.int .u8 0,.int .u8 0,.int .u8 0,.int .u8 0,.int .u8 0,.int .u8 0,.int .u8 0,.int .u8 0,.int .u8 0,.int .u8 0,.int .u8 0,.int .u8 0,.int .u8 0,.int .u8 0,.int .u8 0])) (by kernel_rfl) (by kernel_rfl) (fun _=>.inl rfl)
theorem row_251:TIok Tryz.prog 251 ty251:=TIok.of_row (by kernel_rfl) (z:=.int .u32 0) (by kernel_rfl) (fun _ _ _=>ofConst_sound (.int .u32 0)) (by kernel_rfl) (by kernel_rfl) (fun h=>absurd h (by decide))
theorem row_262:TIok Tryz.prog 262 ty262:=TIok.of_row (by kernel_rfl) (z:=.agg #[]) (by kernel_rfl) (fun _ _ _=>ofConst_sound (.agg #[])) (by kernel_rfl) (by kernel_rfl) (fun _=>.inl rfl)
theorem row_263:TIok Tryz.prog 263 ty263:=TIok.of_row (by kernel_rfl) (z:=.agg #[]) (by kernel_rfl) (fun _ _ _=>ofConst_sound (.agg #[])) (by kernel_rfl) (by kernel_rfl) (fun _=>.inl rfl)
theorem row_265:TIok Tryz.prog 265 ty265:=TIok.of_row (by kernel_rfl) (z:=.agg #[.int .i64 0]) (by kernel_rfl) (fun _ _ _=>ofConst_sound (.agg #[.int .i64 0])) (by kernel_rfl) (by kernel_rfl) (fun _=>.inr (by kernel_rfl))
theorem row_267:TIok Tryz.prog 267 ty267:=TIok.of_row (by kernel_rfl) (z:=.agg #[.nilIface]) (by kernel_rfl) (fun _ _ _=>ofConst_sound (.agg #[.nilIface])) (by kernel_rfl) (by kernel_rfl) (fun _=>.inl rfl)
theorem row_269:TIok Tryz.prog 269 ty269:=TIok.of_row (by kernel_rfl) (z:=.agg #[.nilIface,.nilIface]) (by kernel_rfl) (fun _ _ _=>ofConst_sound (.agg #[.nilIface,.nilIface])) (by kernel_rfl) (by kernel_rfl) (fun _=>.inl rfl)
theorem row_270:TIok Tryz.prog 270 ty270:=TIok.of_row (by kernel_rfl) (z:=.agg #[.nilIface,.nilIface]) (by kernel_rfl) (fun _ _ _=>ofConst_sound (.agg #[.nilIface,.nilIface])) (by kernel_rfl) (by kernel_rfl) (fun _=>.inl rfl)
theorem row_271:TIok Tryz.prog 271 ty271:=TIok.of_row (by kernel_rfl) (z:=.pointer none) (by kernel_rfl) (fun _ _ _=>ofConst_sound (.pointer none)) (by kernel_rfl) (by kernel_rfl) (fun h=>absurd h (by decide))
theorem row_272:TIok Tryz.prog 272 ty272:=TIok.of_row (by kernel_rfl) (z:=.map none) (by kernel_rfl) (fun _ _ _=>ofConst_sound (.map none)) (by kernel_rfl) (by kernel_rfl) (fun h=>absurd h (by decide))
theorem row_273:TIok Tryz.prog 273 ty273:=TIok.of_row (by kernel_rfl) (z:=.slice none 0 0) (by kernel_rfl) (fun _ _ _=>ofConst_sound (.slice none 0 0)) (by kernel_rfl) (by kernel_rfl) (fun h=>absurd h (by decide))
theorem row_275:TIok Tryz.prog 275 ty275:=TIok.of_row (by kernel_rfl) (z:=.agg #[.map none,.slice none 0 0]) (by kernel_rfl) (fun _ _ _=>ofConst_sound (.agg #[.map none,.slice none 0 0])) (by kernel_rfl) (by kernel_rfl) (fun _=>.inl rfl)
theorem row_277:TIok Tryz.prog 277 ty277:=TIok.of_row (by kernel_rfl) (z:=.slice none 0 0) (by kernel_rfl) (fun _ _ _=>ofConst_sound (.slice none 0 0)) (by kernel_rfl) (by kernel_rfl) (fun h=>absurd h (by decide))
theorem row_278:TIok Tryz.prog 278 ty278:=TIok.of_row (by kernel_rfl) (z:=.map none) (by kernel_rfl) (fun _ _ _=>ofConst_sound (.map none)) (by kernel_rfl) (by kernel_rfl) (fun h=>absurd h (by decide))
theorem row_282:TIok Tryz.prog 282 ty282:=TIok.of_row (by kernel_rfl) (z:=.map none) (by kernel_rfl) (fun _ _ _=>ofConst_sound (.map none)) (by kernel_rfl) (by kernel_rfl) (fun h=>absurd h (by decide))
theorem row_287:TIok Tryz.prog 287 ty287:=TIok.of_row (by kernel_rfl) (z:=.agg #[.bool false,.int .u32 0,.int .u32 0,.int .i64 0]) (by kernel_rfl) (fun _ _ _=>ofConst_sound (.agg #[.bool false,.int .u32 0,.int .u32 0,.int .i64 0])) (by kernel_rfl) (by kernel_rfl) (fun _=>.inr (by kernel_rfl))
theorem row_289:TIok Tryz.prog 289 ty289:=TIok.of_row (by kernel_rfl) (z:=.slice none 0 0) (by kernel_rfl) (fun _ _ _=>ofConst_sound (.slice none 0 0)) (by kernel_rfl) (by kernel_rfl) (fun h=>absurd h (by decide))
theorem row_292:TIok Tryz.prog 292 ty292:=TIok.of_row (by kernel_rfl) (z:=.agg #[.int .u32 0,.bool false]) (by kernel_rfl) (fun _ _ _=>ofConst_sound (.agg #[.int .u32 0,.bool false])) (by kernel_rfl) (by kernel_rfl) (fun _=>.inr (by kernel_rfl))
theorem row_293:TIok Tryz.prog 293 ty293:=TIok.of_row (by kernel_rfl) (z:=.slice none 0 0) (by kernel_rfl) (fun _ _ _=>ofConst_sound (.slice none 0 0)) (by kernel_rfl) (by kernel_rfl) (fun h=>absurd h (by decide))
theorem row_299:TIok Tryz.prog 299 ty299:=TIok.of_row (by kernel_rfl) (z:=.agg #[.int .u64 0,.int .u64 0,.int .u64 0,.int .u64 0,.int .u64 0,.int .u64 0,.int .u64 0,.int .u64 0,.int .u64 0,.int .u64 0,.int .u64 0,.int .u64 0,.int .u64 0,.int .u64 0,.int .u64 0,.int .u64 0,.int .u64 0,.int .u64 0,.int .u64 0,.int .u64 0]) (by kernel_rfl) (fun _ _ _=>ofConst_sound (.agg #[.int .u64 0,.int .u64 0,.int .u64 0,.int .u64 0,.int .u64 0,.int .u64 0,.int .u64 0,.int .u64 0,.int .u64 0,.int .u64 0,.int .u64 0,.int .u64 0,.int .u64 0,.int .u64 0,.int .u64 0,.int .u64 0,.int .u64 0,.int .u64 0,.int .u64 0,.int .u64 0])) (by kernel_rfl) (by kernel_rfl) (fun _=>.inl rfl)
theorem row_300:TIok Tryz.prog 300 ty300:=TIok.of_row (by kernel_rfl) (z:=.agg (Array.replicate 65 (.int .u8 0))) (by kernel_rfl) (fun _ _ _=>by rw [show ty300.zero=ofConst (.agg (Array.replicate 65 (.int .u8 0))) by kernel_rfl];exact ofConst_sound _) (by kernel_rfl) (by kernel_rfl) (fun _=>.inl rfl)
theorem row_308:TIok Tryz.prog 308 ty308:=TIok.of_row (by kernel_rfl) (z:=.nilFunc) (by kernel_rfl) (fun _ _ _=>ofConst_sound (.nilFunc)) (by kernel_rfl) (by kernel_rfl) (fun h=>absurd h (by decide))
theorem row_310:TIok Tryz.prog 310 ty310:=TIok.of_row (by kernel_rfl) (z:=.map none) (by kernel_rfl) (fun _ _ _=>ofConst_sound (.map none)) (by kernel_rfl) (by kernel_rfl) (fun h=>absurd h (by decide))
theorem row_312:TIok Tryz.prog 312 ty312:=TIok.of_row (by kernel_rfl) (z:=.agg #[.int .i64 0,.int .i64 0,.int .i64 0,.int .i64 0,.int .i64 0,.int .i64 0,.int .i64 0,.int .i64 0,.int .i64 0,.int .i64 0,.int .i64 0,.int .i64 0,.int .i64 0,.int .i64 0,.int .i64 0,.int .i64 0,.int .i64 0]) (by kernel_rfl) (fun _ _ _=>ofConst_sound (.agg #[.int .i64 0,.int .i64 0,.int .i64 0,.int .i64 0,.int .i64 0,.int .i64 0,.int .i64 0,.int .i64 0,.int .i64 0,.int .i64 0,.int .i64 0,.int .i64 0,.int .i64 0,.int .i64 0,.int .i64 0,.int .i64 0,.int .i64 0])) (by kernel_rfl) (by kernel_rfl) (fun _=>.inl rfl)
theorem row_317:TIok Tryz.prog 317 ty317:=TIok.of_row (by kernel_rfl) (z:=.agg (Array.replicate 256 (.int .u8 0))) (by kernel_rfl) (fun _ _ _=>by rw [show ty317.zero=ofConst (.agg (Array.replicate 256 (.int .u8 0))) by kernel_rfl];exact ofConst_sound _) (by kernel_rfl) (by kernel_rfl) (fun _=>.inl rfl)
theorem row_319:TIok Tryz.prog 319 ty319:=TIok.of_row (by kernel_rfl) (z:=.agg #[.int .u8 0,.int .u8 0]) (by kernel_rfl) (fun _ _ _=>ofConst_sound (.agg #[.int .u8 0,.int .u8 0])) (by kernel_rfl) (by kernel_rfl) (fun _=>.inr (by kernel_rfl))
theorem row_320:TIok Tryz.prog 320 ty320:=TIok.of_row (by kernel_rfl) (z:=.agg (Array.replicate 32 (.int .u8 0))) (by kernel_rfl) (fun _ _ _=>by rw [show ty320.zero=ofConst (.agg (Array.replicate 32 (.int .u8 0))) by kernel_rfl];exact ofConst_sound _) (by kernel_rfl) (by kernel_rfl) (fun _=>.inl rfl)
theorem row_323:TIok Tryz.prog 323 ty323:=TIok.of_row (by kernel_rfl) (z:=.agg (Array.replicate 256 (.bool false))) (by kernel_rfl) (fun _ _ _=>by rw [show ty323.zero=ofConst (.agg (Array.replicate 256 (.bool false))) by kernel_rfl];exact ofConst_sound _) (by kernel_rfl) (by kernel_rfl) (fun _=>.inl rfl)
theorem row_327:TIok Tryz.prog 327 ty327:=TIok.of_row (by kernel_rfl) (z:=.pointer none) (by kernel_rfl) (fun _ _ _=>ofConst_sound (.pointer none)) (by kernel_rfl) (by kernel_rfl) (fun h=>absurd h (by decide))
theorem row_332:TIok Tryz.prog 332 ty332:=TIok.of_row (by kernel_rfl) (z:=.agg (Array.replicate 32 (.int .u8 0))) (by kernel_rfl) (fun _ _ _=>by rw [show ty332.zero=ofConst (.agg (Array.replicate 32 (.int .u8 0))) by kernel_rfl];exact ofConst_sound _) (by kernel_rfl) (by kernel_rfl) (fun _=>.inl rfl)
theorem row_333:TIok Tryz.prog 333 ty333:=TIok.of_row (by kernel_rfl) (z:=.agg (Array.replicate 64 (.int .u8 0))) (by kernel_rfl) (fun _ _ _=>by rw [show ty333.zero=ofConst (.agg (Array.replicate 64 (.int .u8 0))) by kernel_rfl];exact ofConst_sound _) (by kernel_rfl) (by kernel_rfl) (fun _=>.inl rfl)
theorem allOK:AllOK Tryz.prog 0 ttL:=⟨fun h=>absurd rfl h,fun h=>absurd rfl h,fun _=>row_2,fun _=>row_3,fun _=>row_4,fun _=>row_5,fun h=>absurd rfl h,fun h=>absurd rfl h,fun h=>absurd rfl h,fun _=>row_9,fun h=>absurd rfl h,fun h=>absurd rfl h,fun h=>absurd rfl h,fun h=>absurd rfl h,fun h=>absurd rfl h,fun h=>absurd rfl h,fun h=>absurd rfl h,fun h=>absurd rfl h,fun h=>absurd rfl h,fun h=>absurd rfl h,fun h=>absurd rfl h,fun _=>row_21,fun _=>row_22,fun h=>absurd rfl h,fun h=>absurd rfl h,fun _=>row_25,fun h=>absurd rfl h,fun h=>absurd rfl h,fun h=>absurd rfl h,fun h=>absurd rfl h,fun h=>absurd rfl h,fun h=>absurd rfl h,fun _=>row_32,fun _=>row_33,fun _=>row_34,fun h=>absurd rfl h,fun _=>row_36,fun h=>absurd rfl h,fun h=>absurd rfl h,fun h=>absurd rfl h,fun h=>absurd rfl h,fun h=>absurd rfl h,fun _=>row_42,fun h=>absurd rfl h,fun _=>row_44,fun h=>absurd rfl h,fun h=>absurd rfl h,fun _=>row_47,fun h=>absurd rfl h,fun h=>absurd rfl h,fun h=>absurd rfl h,fun h=>absurd rfl h,fun h=>absurd rfl h,fun h=>absurd rfl h,fun _=>row_54,fun h=>absurd rfl h,fun h=>absurd rfl h,fun h=>absurd rfl h,fun _=>row_58,fun h=>absurd rfl h,fun _=>row_60,fun h=>absurd rfl h,fun h=>absurd rfl h,fun h=>absurd rfl h,fun h=>absurd rfl h,fun _=>row_65,fun h=>absurd rfl h,fun h=>absurd rfl h,fun h=>absurd rfl h,fun _=>row_69,fun _=>row_70,fun _=>row_71,fun h=>absurd rfl h,fun _=>row_73,fun _=>row_74,fun h=>absurd rfl h,fun h=>absurd rfl h,fun h=>absurd rfl h,fun _=>row_78,fun h=>absurd rfl h,fun h=>absurd rfl h,fun h=>absurd rfl h,fun h=>absurd rfl h,fun h=>absurd rfl h,fun h=>absurd rfl h,fun h=>absurd rfl h,fun h=>absurd rfl h,fun h=>absurd rfl h,fun h=>absurd rfl h,fun h=>absurd rfl h,fun h=>absurd rfl h,fun h=>absurd rfl h,fun h=>absurd rfl h,fun h=>absurd rfl h,fun h=>absurd rfl h,fun h=>absurd rfl h,fun h=>absurd rfl h,fun h=>absurd rfl h,fun h=>absurd rfl h,fun h=>absurd rfl h,fun h=>absurd rfl h,fun h=>absurd rfl h,fun h=>absurd rfl h,fun h=>absurd rfl h,fun _=>row_104,fun h=>absurd rfl h,fun h=>absurd rfl h,fun _=>row_107,fun h=>absurd rfl h,fun _=>row_109,fun h=>absurd rfl h,fun h=>absurd rfl h,fun _=>row_112,fun h=>absurd rfl h,fun _=>row_114,fun h=>absurd rfl h,fun _=>row_116,fun h=>absurd rfl h,fun h=>absurd rfl h,fun h=>absurd rfl h,fun _=>row_120,fun h=>absurd rfl h,fun h=>absurd rfl h,fun h=>absurd rfl h,fun _=>row_124,fun h=>absurd rfl h,fun h=>absurd rfl h,fun h=>absurd rfl h,fun _=>row_128,fun h=>absurd rfl h,fun h=>absurd rfl h,fun _=>row_131,fun h=>absurd rfl h,fun _=>row_133,fun h=>absurd rfl h,fun _=>row_135,fun _=>row_136,fun h=>absurd rfl h,fun _=>row_138,fun h=>absurd rfl h,fun _=>row_140,fun h=>absurd rfl h,fun h=>absurd rfl h,fun h=>absurd rfl h,fun _=>row_144,fun h=>absurd rfl h,fun h=>absurd rfl h,fun _=>row_147,fun h=>absurd rfl h,fun h=>absurd rfl h,fun h=>absurd rfl h,fun h=>absurd rfl h,fun h=>absurd rfl h,fun h=>absurd rfl h,fun h=>absurd rfl h,fun h=>absurd rfl h,fun h=>absurd rfl h,fun _=>row_157,fun _=>row_158,fun h=>absurd rfl h,fun _=>row_160,fun h=>absurd rfl h,fun h=>absurd rfl h,fun _=>row_163,fun h=>absurd rfl h,fun _=>row_165,fun h=>absurd rfl h,fun _=>row_167,fun _=>row_168,fun h=>absurd rfl h,fun h=>absurd rfl h,fun h=>absurd rfl h,fun h=>absurd rfl h,fun h=>absurd rfl h,fun _=>row_174,fun h=>absurd rfl h,fun _=>row_176,fun h=>absurd rfl h,fun h=>absurd rfl h,fun h=>absurd rfl h,fun h=>absurd rfl h,fun h=>absurd rfl h,fun h=>absurd rfl h,fun _=>row_183,fun h=>absurd rfl h,fun h=>absurd rfl h,fun h=>absurd rfl h,fun _=>row_187,fun h=>absurd rfl h,fun h=>absurd rfl h,fun _=>row_190,fun h=>absurd rfl h,fun _=>row_192,fun h=>absurd rfl h,fun h=>absurd rfl h,fun h=>absurd rfl h,fun h=>absurd rfl h,fun h=>absurd rfl h,fun h=>absurd rfl h,fun h=>absurd rfl h,fun _=>row_200,fun h=>absurd rfl h,fun h=>absurd rfl h,fun _=>row_203,fun h=>absurd rfl h,fun _=>row_205,fun h=>absurd rfl h,fun h=>absurd rfl h,fun h=>absurd rfl h,fun h=>absurd rfl h,fun h=>absurd rfl h,fun h=>absurd rfl h,fun h=>absurd rfl h,fun h=>absurd rfl h,fun h=>absurd rfl h,fun h=>absurd rfl h,fun h=>absurd rfl h,fun h=>absurd rfl h,fun h=>absurd rfl h,fun h=>absurd rfl h,fun h=>absurd rfl h,fun h=>absurd rfl h,fun h=>absurd rfl h,fun h=>absurd rfl h,fun h=>absurd rfl h,fun h=>absurd rfl h,fun h=>absurd rfl h,fun h=>absurd rfl h,fun h=>absurd rfl h,fun _=>row_229,fun h=>absurd rfl h,fun _=>row_231,fun h=>absurd rfl h,fun h=>absurd rfl h,fun _=>row_234,fun h=>absurd rfl h,fun h=>absurd rfl h,fun h=>absurd rfl h,fun _=>row_238,fun h=>absurd rfl h,fun h=>absurd rfl h,fun h=>absurd rfl h,fun h=>absurd rfl h,fun h=>absurd rfl h,fun _=>row_244,fun h=>absurd rfl h,fun _=>row_246,fun h=>absurd rfl h,fun h=>absurd rfl h,fun h=>absurd rfl h,fun h=>absurd rfl h,fun _=>row_251,fun h=>absurd rfl h,fun h=>absurd rfl h,fun h=>absurd rfl h,fun h=>absurd rfl h,fun h=>absurd rfl h,fun h=>absurd rfl h,fun h=>absurd rfl h,fun h=>absurd rfl h,fun h=>absurd rfl h,fun h=>absurd rfl h,fun _=>row_262,fun _=>row_263,fun h=>absurd rfl h,fun _=>row_265,fun h=>absurd rfl h,fun _=>row_267,fun h=>absurd rfl h,fun _=>row_269,fun _=>row_270,fun _=>row_271,fun _=>row_272,fun _=>row_273,fun h=>absurd rfl h,fun _=>row_275,fun h=>absurd rfl h,fun _=>row_277,fun _=>row_278,fun h=>absurd rfl h,fun h=>absurd rfl h,fun h=>absurd rfl h,fun _=>row_282,fun h=>absurd rfl h,fun h=>absurd rfl h,fun h=>absurd rfl h,fun h=>absurd rfl h,fun _=>row_287,fun h=>absurd rfl h,fun _=>row_289,fun h=>absurd rfl h,fun h=>absurd rfl h,fun _=>row_292,fun _=>row_293,fun h=>absurd rfl h,fun h=>absurd rfl h,fun h=>absurd rfl h,fun h=>absurd rfl h,fun h=>absurd rfl h,fun _=>row_299,fun _=>row_300,fun h=>absurd rfl h,fun h=>absurd rfl h,fun h=>absurd rfl h,fun h=>absurd rfl h,fun h=>absurd rfl h,fun h=>absurd rfl h,fun h=>absurd rfl h,fun _=>row_308,fun h=>absurd rfl h,fun _=>row_310,fun h=>absurd rfl h,fun _=>row_312,fun h=>absurd rfl h,fun h=>absurd rfl h,fun h=>absurd rfl h,fun h=>absurd rfl h,fun _=>row_317,fun h=>absurd rfl h,fun _=>row_319,fun _=>row_320,fun h=>absurd rfl h,fun h=>absurd rfl h,fun _=>row_323,fun h=>absurd rfl h,fun h=>absurd rfl h,fun h=>absurd rfl h,fun _=>row_327,fun h=>absurd rfl h,fun h=>absurd rfl h,fun h=>absurd rfl h,fun h=>absurd rfl h,fun _=>row_332,fun _=>row_333,fun h=>absurd rfl h,fun h=>absurd rfl h,fun h=>absurd rfl h,fun h=>absurd rfl h,fun h=>absurd rfl h,fun h=>absurd rfl h,fun h=>absurd rfl h,fun h=>absurd rfl h,fun h=>absurd rfl h,fun h=>absurd rfl h,fun h=>absurd rfl h,fun h=>absurd rfl h,fun h=>absurd rfl h,fun h=>absurd rfl h,fun h=>absurd rfl h,fun h=>absurd rfl h,fun h=>absurd rfl h,trivial⟩
theorem tok:TOK Tryz.prog tt:=fun t h=>by have:=tok_of allOK t h;rwa [Nat.zero_add] at this
end
section
theorem mixed:Tryz.prog.follows .mixedOrders=true:=by kernel_rfl
def cfg0:Cfg:={ lv:=[],ef:=[],ord:=[],em:=[] }
theorem ibeq_dec {a b:Int}:(a==b)=decide (a=b):=by rw [Bool.eq_iff_iff,beq_iff_eq,decide_eq_true_eq]
end
end Go.Proofs.YtlbmbbaefncleaaGreatDoor
