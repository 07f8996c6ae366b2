/- Bytes: their element; a copy of them: the writer's text holds both at this seat. -/
import Derived.Test.YtfmebmaklakckaaDoorWriter
import Derived.Test.YtfmebmaklakckaaDoorSlice
